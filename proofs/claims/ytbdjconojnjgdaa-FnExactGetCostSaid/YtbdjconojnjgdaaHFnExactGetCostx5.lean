/- Functions of the program and what each call of them comes to, for the law FnExactGetCost; written by a program of this session. No condition beyond those of each theorem. -/
import Derived.Test.YtbdjconojnjgdaaHFnExactGetCostx0
import Derived.Test.YtbdjconojnjgdaaHFnExactGetCostx4
namespace Go.Proofs.Ytbdjconojnjgdaa.HFnExactGetCost
open Go.RowKit Go.Proofs.YtbdjconojnjgdaaW.PrintWords Go.Proofs.YtbdjconojnjgdaaW.PrintLast Go.Proofs.YtbdjconojnjgdaaW.PrintMore
attribute [local go_sem] max2_int min2_int max_two min_two max_three min_three max_four min_four   -- for this text's walks alone
open List renaming setIfInBounds_toArray → s1_, set_cons_zero → s2_, set_cons_succ → s3_
set_option linter.unusedVariables false
set_option linter.unusedSimpArgs false

/-! ### impl_GetCost: function 18 -/
def impl_GetCost.l0 : Nat → List Int → ByteArray → Int → Option (List Int × List Int × List Int × Bool)
  | 0, _, _, _ => none
  | k + 1, x4, x5, x11 => if x11 < 48 then ((impl_ReadVar.f k x5).bind fun bt178 => (if bt178.2 = 0 then (some (([] : List Int), ([] : List Int), ([] : List Int), false)) else (if x4.length < 17592186044416 then (if 0 ≤ bt178.2 then (if bt178.2 ≤ (x5.size : Int) then (impl_GetCost.l0 k (x4 ++ [bt178.1]) (x5.extract (bt178.2 : Int).toNat x5.size) (wrap64 (x11 + 1))) else (none)) else (none)) else (none)))) else (if 6 ≤ (x4.length : Int) then ((slices_Clone_int_int.f (x4.take 6)).bind fun t187 => (if 6 ≤ 12 then (if 12 ≤ (x4.length : Int) then ((slices_Clone_int_int.f ((x4.take 12).drop 6)).bind fun t194 => ((slices_Clone_int_int.f (x4.drop 12)).bind fun t201 => (if x5.toList = ([] : List UInt8) then ((impl_CostOk.f k t187 t194 t201).bind fun t205 => (if t205 = true then (some (t187, t194, t201, true)) else (some (([] : List Int), ([] : List Int), ([] : List Int), false)))) else (some (([] : List Int), ([] : List Int), ([] : List Int), false))))) else (none)) else (none))) else (none))
def impl_GetCost.f (k : Nat) (a0 : ByteArray) : Option (List Int × List Int × List Int × Bool) := impl_GetCost.l0 k (([] : List Int)) a0 0
theorem impl_GetCost.mono_l : ∀ k, (∀ y0 y1 y2, LeO (impl_GetCost.l0 k y0 y1 y2) (impl_GetCost.l0 (k + 1) y0 y1 y2))
  | 0 => fun _ _ _ r h => by simp [impl_GetCost.l0] at h
  | k + 1 => by
    have ih0 := impl_GetCost.mono_l k
    · intro y0 y1 y2
      unfold impl_GetCost.l0
      repeat' first
      | (with_reducible exact ih0 _ _ _)
      | (with_reducible exact impl_CostOk.mono _ _ _ _)
      | (with_reducible exact impl_ReadVar.mono _ _)
      | (with_reducible exact LeO.refl _)
      | (with_reducible exact LeO.none _)
      | (with_reducible refine LeO.ite ?_ ?_)
      | (with_reducible refine LeO.bind ?_ (fun _ => ?_))
      | exact ih0 _ _ _
      | exact impl_CostOk.mono _ _ _ _
      | exact impl_ReadVar.mono _ _
      | exact LeO.none _
      | refine LeO.ite ?_ ?_
      | refine LeO.bind ?_ (fun _ => ?_)
theorem impl_GetCost.mono : ∀ a0 k, LeO (impl_GetCost.f k a0) (impl_GetCost.f (k + 1) a0) := by
  intro a0 k
  have ih0 := impl_GetCost.mono_l k
  unfold impl_GetCost.f
  repeat' first
      | (with_reducible exact ih0 _ _ _)
      | (with_reducible exact impl_CostOk.mono _ _ _ _)
      | (with_reducible exact impl_ReadVar.mono _ _)
      | (with_reducible exact LeO.refl _)
      | (with_reducible exact LeO.none _)
      | (with_reducible refine LeO.ite ?_ ?_)
      | (with_reducible refine LeO.bind ?_ (fun _ => ?_))
      | exact ih0 _ _ _
      | exact impl_CostOk.mono _ _ _ _
      | exact impl_ReadVar.mono _ _
      | exact LeO.none _
      | refine LeO.ite ?_ ?_
      | refine LeO.bind ?_ (fun _ => ?_)
def impl_GetCost.T7 : Bool × List (List Nat × List Nat) := (true, [([], []), ([], []), ([1], [1]), ([0, 2], [0, 2]), ([], []), ([], []), ([4, 5], [4, 5]), ([3, 3, 0, 1, 2, 3], [0, 3]), ([6, 7, 0, 1, 2, 3, 4, 5, 6, 7], [4, 6])])
def impl_GetCost.B7 : List Nat := [0, 0, 2, 7, 0, 0, 48, 15, 255]
theorem impl_GetCost.tab7 : rtab .any (opsOf Try.f18 7) = impl_GetCost.T7 := by kernel_rfl
theorem impl_GetCost.bits7 : waitsOk impl_GetCost.T7.2 impl_GetCost.B7 = true := by kernel_rfl
def impl_GetCost.T9 : Bool × List (List Nat × List Nat) := (true, [([], []), ([0], [0]), ([1], [1]), ([], []), ([3], [3]), ([4, 2], [4]), ([], []), ([6], [6]), ([7, 5], [7]), ([2, 5, 8], [2, 5, 8]), ([], []), ([10, 9, 8, 0, 1, 2, 3, 4, 5, 6, 7, 8, 9, 10], [9, 10])])
def impl_GetCost.B9 : List Nat := [0, 1, 3, 0, 8, 31, 0, 64, 255, 511, 0, 2047]
theorem impl_GetCost.tab9 : rtab .any (opsOf Try.f18 9) = impl_GetCost.T9 := by kernel_rfl
theorem impl_GetCost.bits9 : waitsOk impl_GetCost.T9.2 impl_GetCost.B9 = true := by kernel_rfl
abbrev bs23_0 : Array Bool := #[false, false, false, false, false, false, false, false, false]
abbrev bs23_1 : Array Bool := #[true, false, false, false, false, false, false, false, false]
abbrev bs23_2 : Array Bool := #[true, true, false, false, false, false, false, false, false]
abbrev bs23_3 : Array Bool := #[true, true, false, false, true, false, false, false, false]
abbrev bs23_4 : Array Bool := #[true, true, false, false, true, true, false, false, false]
abbrev bs23_5 : Array Bool := #[false, false, false, false, false, false, false, false, false, false, false, false]
abbrev bs23_6 : Array Bool := #[true, false, false, false, false, false, false, false, false, false, false, false]
abbrev bs23_7 : Array Bool := #[true, true, false, false, false, false, false, false, false, false, false, false]
abbrev bs23_8 : Array Bool := #[true, true, false, true, false, false, false, false, false, false, false, false]
abbrev bs23_9 : Array Bool := #[true, true, false, true, true, false, false, false, false, false, false, false]
abbrev bs23_10 : Array Bool := #[true, true, false, true, true, false, true, false, false, false, false, false]
abbrev bs23_11 : Array Bool := #[true, true, false, true, true, false, true, true, false, false, false, false]
abbrev bs23_12 : Array Bool := #[true, true, true, true, true, true, true, true, true, true, true, false]
abbrev bs23_13 : Array Bool := #[true, true, true, true, true, false, true, true, false, false, false, false]
abbrev bs23_14 : Array Bool := #[true, true, false, true, true, false, true, true, false, false, true, false]
abbrev bs23_15 : Array Bool := #[true, true, true, true, true, true, true, true, false, false, false, false]
abbrev bs23_16 : Array Bool := #[true, true, true, true, true, false, true, true, false, false, true, false]
abbrev bs23_17 : Array Bool := #[true, true, true, true, true, true, true, true, true, false, false, false]
abbrev bs23_18 : Array Bool := #[true, true, true, true, true, true, true, true, false, false, true, false]
abbrev bs23_19 : Array Bool := #[true, true, true, true, true, true, true, true, true, true, false, false]
abbrev bs23_20 : Array Bool := #[true, true, true, true, true, true, true, true, true, false, true, false]
abbrev bs23_21 : Array Bool := #[true, true, true, true, true, true, true, true, true, true, true, true]
set_option maxHeartbeats 8000000 in
set_option maxRecDepth 100000 in
theorem impl_GetCost.calls (k : Nat) (a0 : ByteArray) (r1 : List Int) (r2 : List Int) (r3 : List Int) (r4 : Bool) (w : World) (h : impl_GetCost.f k a0 = some (r1, r2, r3, r4)) :
    Calls Try.prog 18 #[.string a0] w fun e w' => ∃ v0_ v1_ v2_ : Value, e = .returned (.tuple #[.agg #[v0_, v1_, v2_], .bool r4]) ∧ Kd.R (Kd.int .i64) 3 w' w.heap.size (fun k_ => some k_ ≠ (v1_ : Value).ownBlock ∧ some k_ ≠ (v2_ : Value).ownBlock) v0_ r1 ∧ Kd.R (Kd.int .i64) 3 w' w.heap.size (fun k_ => some k_ ≠ (v0_ : Value).ownBlock ∧ some k_ ≠ (v2_ : Value).ownBlock) v1_ r2 ∧ Kd.R (Kd.int .i64) 3 w' w.heap.size (fun k_ => some k_ ≠ (v0_ : Value).ownBlock ∧ some k_ ≠ (v1_ : Value).ownBlock) v2_ r3 ∧ Below w.heap.size w w' := by
  have hu27 := Try.underlying27
  have HB := Aside0.mk (Below.refl w.heap.size w)
  have H : (impl_GetCost.l0 k (([] : List Int)) a0 0) = some (r1, r2, r3, r4) := h
  clear h
  obtain ⟨y175, hy175⟩ : ∃ y_ : List Int, y_ = (([] : List Int)) := ⟨_, rfl⟩
  replace H : (impl_GetCost.l0 k y175 a0 0) = some (r1, r2, r3, r4) := by first | (rw [hy175]; with_reducible exact H) | (have H2_ := (Option.bind_some _ _).symm.trans H; rw [hy175]; with_reducible exact H2_) | (have H2_ := (Option.bind_some _ _).symm.trans H; with_reducible exact H2_) | with_reducible exact H | (rw [hy175]; exact H) | exact H
  have Ny175 := Aside0.mk hy175
  clear hy175
  have H' := Aside0.mk H
  clear H
  go_enter Try.func18, Try.ntmps18
  go_wp2_with (first | ((with_reducible refine gate_dst (N := 2) rfl ?_); refine box_event ?hg (N := 2) ?hd (cs := #[.slice none 0 0, .slice none 0 0, .slice none 0 0]) (t := 27) ?hr ?_; (case hd => rfl); (case hg => rfl); (case hr => first | (go_simp; done) | (go_simp; rfl)); intro gb174 hg w2 hbox hb; have n0_ := Aside0.mk (below_step (by repeat (first | (with_reducible first | exact HB.out | apply below_alloc | apply pw_below_drewN | apply below_drew1) | exact HB.out)) hb); have n1_ := Aside0.mk (hbox); have n2_ := Aside0.mk ((by rw [hg]; exact (below_size (by repeat (first | (with_reducible first | exact HB.out | apply below_alloc | apply pw_below_drewN | apply below_drew1) | exact HB.out))) : w.heap.size ≤ gb174)); have n3_ := Aside0.mk ((by rw [hg]; exact (below_size (by repeat (first | (with_reducible first | exact HB.out | apply below_alloc | apply pw_below_drewN | apply below_drew1) | exact HB.out))) : w.heap.size ≤ gb174)); clear HB; have HB := n0_; have BK174 := n1_; have GW174 := n2_; have GE174 := n3_; clear n0_ n1_ n2_ n3_; clear hb hbox hg) | ((with_reducible refine gate_dst (N := 9) rfl ?_); refine Kd.R_lit (Kd.int .i64) _ 3 ?hg (N := 9) ?hd (xs := ([] : List Int)) (inner := []) (ok := fun _ => True) (okp := fun _ => True) ?hr ?hp (fun _ hk => hk) trivial (Below.refl _ _) (Nat.le_refl _) (by simp) ?_; (case hd => rfl); (case hg => rfl); (case hr => first | (go_simp; done) | (go_simp; rfl)); (case hp => exact (Reps.none _ _)); intro v176 w3 ho4 hb hg_ hnew_; clear hg_ hnew_; (first | rw [← Ny175.out] at ho4 | (simp only [Int.reduceToNat] at ho4; rw [← Ny175.out] at ho4)); have n0_ := Aside0.mk (Kd.R_lower ho4 (below_size (by repeat (first | (with_reducible first | exact HB.out | apply below_alloc | apply pw_below_drewN | apply below_drew1 | refine below_set ?_ GE174.out) | exact HB.out)))); have n1_ := Aside0.mk (blk_below (g := gb174) (o := .cells #[.slice none 0 0, .slice none 0 0, .slice none 0 0] 27 (0, 0)) (by (with_reducible repeat (first | refine blk_drewN ?_ _ | refine blk_drew ?_ | refine blk_alloc ?_ _)); exact BK174.out) hb); have n2_ := Aside0.mk (below_step (by repeat (first | (with_reducible first | exact HB.out | apply below_alloc | apply pw_below_drewN | apply below_drew1 | refine below_set ?_ GE174.out) | exact HB.out)) hb); clear BK174; clear HB; have HO177 := n0_; have BK174 := n1_; have HB := n2_; clear n0_ n1_ n2_; clear hb ho4))
  go_loopg [4, 5, 11] k (fun kq v4 v5 v11 w' => ∃ (x4_1 : List Int) (x5_1 : ByteArray) (x11_1 : Int), v5 = .string x5_1 ∧ v11 = .int .i64 x11_1 ∧ Aside0 (impl_GetCost.l0 kq x4_1 x5_1 x11_1 = some (r1, r2, r3, r4)) ∧ Aside0 (kq ≤ k) ∧ Aside0 (Kd.R (Kd.int .i64) 3 w' w.heap.size (fun _ => True) v4 x4_1) ∧ Aside0 (w'.heap[gb174]? = some (.cells #[(.slice none 0 0), (.slice none 0 0), (.slice none 0 0)] 27 (0, 0))) ∧ Aside0 (Below w.heap.size w w'))
  case atStart => exact ⟨(y175), (a0), (0), (by first | rfl | (simp; done) | (simp [*]; done)), (by first | rfl | (simp; done) | (simp [*]; done)), H', ⟨Nat.le_refl _⟩, ⟨by (with_reducible repeat (first | apply Kd.R_alloc | apply Kd.R_drewN | apply Kd.R_drew)); exact HO177.out⟩, ⟨by (with_reducible repeat (first | refine blk_drewN ?_ _ | refine blk_drew ?_ | refine blk_alloc ?_ _)); exact BK174.out⟩, ⟨by repeat (first | (with_reducible first | exact HB.out | apply below_alloc | apply pw_below_drewN | apply below_drew1 | refine below_set ?_ GE174.out) | exact HB.out)⟩⟩
  case round =>
    clear H'
    try clear c1
    try clear p2
    obtain ⟨x4_1, x5_1, x11_1, rfl, rfl, HA, HK1, HO_4, BK174, HB⟩ := hrel
    cases gk with
    | zero => exact absurd HA.out (by simp [impl_GetCost.l0])
    | succ k1 =>
      have H := HA.out
      clear HA
      simp only [impl_GetCost.l0] at H
      by_cases c5 : x11_1 < 48
      · rw [if_pos c5] at H
        have c5b0 : decide (x11_1 < 48) = true := decide_eq_true c5
        clear c5
        replace H := Option.bind_eq_some_iff.mp H
        obtain ⟨⟨t178, t179⟩, A60, H⟩ := H
        replace H : (if t179 = 0 then (some (([] : List Int), ([] : List Int), ([] : List Int), false)) else (if x4_1.length < 17592186044416 then (if 0 ≤ t179 then (if t179 ≤ (x5_1.size : Int) then (impl_GetCost.l0 k1 (x4_1 ++ [t178]) (x5_1.extract (t179 : Int).toNat x5_1.size) (wrap64 (x11_1 + 1))) else (none)) else (none)) else (none))) = some (r1, r2, r3, r4) := H
        have A6 := Aside0.mk A60
        clear A60
        by_cases c7 : t179 = 0
        · rw [if_pos c7] at H
          have c7b0 : (t179 == 0) = true := beq_iff_eq.mpr c7
          have c7b1 : (t179 != 0) = false := bne_eq_false_iff_eq.mpr c7
          clear c7
          simp only [Option.some.injEq, Prod.mk.injEq] at H
          obtain ⟨rfl, rfl, rfl, rfl⟩ := H
          go_wp2_with (first | ((with_reducible refine gate_callee (f := 64) rfl ?_); refine goesL_ (some 15) rfl rfl Try.func64 (by kernel_rfl) rfl #[.string x5_1] rfl (by (try simp only [List.map_toArray, List.map_cons, List.map_nil]); first | done | rfl | (simp only [List.length_drop, List.length_take]; rfl)) ?_; (with_reducible refine (impl_ReadVar.calls k1 x5_1 t178 t179 _ A6.out).mono ?_); rintro e w8 ⟨rfl, hb⟩; refine ⟨_, rfl, ?_⟩; have n0_ := Aside0.mk (Kd.R_below (by (with_reducible repeat (first | apply Kd.R_alloc | apply Kd.R_drewN | apply Kd.R_drew)); exact HO_4.out) hb); have n1_ := Aside0.mk (blk_below (g := gb174) (o := .cells #[.slice none 0 0, .slice none 0 0, .slice none 0 0] 27 (0, 0)) (by (with_reducible repeat (first | refine blk_drewN ?_ _ | refine blk_drew ?_ | refine blk_alloc ?_ _)); exact BK174.out) hb); have n2_ := Aside0.mk (below_step (by repeat (first | (with_reducible first | exact HB.out | apply below_alloc | apply pw_below_drewN | apply below_drew1 | refine below_set ?_ GE174.out) | exact HB.out)) hb); clear HO_4; clear BK174; clear HB; have HO_4 := n0_; have BK174 := n1_; have HB := n2_; clear n0_ n1_ n2_; (try clear hb); (try clear hb2); (try clear hk); (try clear hi); have hcz9_0 : w8.cell? ⟨gb174, 0, none⟩ = some (.slice none 0 0) := (blk_cell BK174.out 0).trans rfl; have hcz9_1 : w8.cell? ⟨gb174, 1, none⟩ = some (.slice none 0 0) := (blk_cell BK174.out 1).trans rfl; have hcz9_2 : w8.cell? ⟨gb174, 2, none⟩ = some (.slice none 0 0) := (blk_cell BK174.out 2).trans rfl; have hfz9_0 := blk_frozen BK174.out 0; have hfz9_1 := blk_frozen BK174.out 1; have hfz9_2 := blk_frozen BK174.out 2))
          refine bodyPost_ret (results_ct rfl _ _ gb174 27 #[.slice none 0 0, .slice none 0 0, .slice none 0 0] (0, 0) _ rfl (by (with_reducible repeat (first | refine blk_drewN ?_ _ | refine blk_drew ?_ | refine blk_alloc ?_ _)); refine blk_put (cs := #[.slice none 0 0, .slice none 0 0, .slice none 0 0]) ?_ 2 _ rfl; (with_reducible repeat (first | refine blk_drewN ?_ _ | refine blk_drew ?_ | refine blk_alloc ?_ _)); refine blk_put (cs := #[.slice none 0 0, .slice none 0 0, .slice none 0 0]) ?_ 1 _ rfl; (with_reducible repeat (first | refine blk_drewN ?_ _ | refine blk_drew ?_ | refine blk_alloc ?_ _)); refine blk_put (cs := #[.slice none 0 0, .slice none 0 0, .slice none 0 0]) ?_ 0 _ rfl; (with_reducible repeat (first | refine blk_drewN ?_ _ | refine blk_drew ?_ | refine blk_alloc ?_ _)); exact BK174.out) Try.underlying27 rfl (by kernel_rfl)) rfl ?_
          exact ⟨_, _, _, by first | rfl | (simp [errW_none, errW_some] <;> rfl) | (simp [*, errW_none, errW_some] <;> rfl), by first | exact Kd.R_nil _ _ _ _ _ | exact Kd.N_nil _ _ _ _ _ | exact Kd.V_nil _ _ _ _ _ | exact Kd.Q_nil _ _ _ _ _ | exact Kd.S_nil _ _ _ _ _, by first | exact Kd.R_nil _ _ _ _ _ | exact Kd.N_nil _ _ _ _ _ | exact Kd.V_nil _ _ _ _ _ | exact Kd.Q_nil _ _ _ _ _ | exact Kd.S_nil _ _ _ _ _, by first | exact Kd.R_nil _ _ _ _ _ | exact Kd.N_nil _ _ _ _ _ | exact Kd.V_nil _ _ _ _ _ | exact Kd.Q_nil _ _ _ _ _ | exact Kd.S_nil _ _ _ _ _, by repeat (first | (with_reducible first | exact HB.out | apply below_alloc | apply pw_below_drewN | apply below_drew1 | refine below_set ?_ GE174.out) | exact HB.out)⟩
        · rw [if_neg c7] at H
          have c7b0 : (t179 == 0) = false := beq_eq_false_iff_ne.mpr c7
          have c7b1 : (t179 != 0) = true := bne_iff_ne.mpr c7
          by_cases c10 : x4_1.length < 17592186044416
          · rw [if_pos c10] at H
            have LMc10 := Aside0.mk c10
            clear c10
            obtain ⟨y180, hy180⟩ : ∃ y_ : List Int, y_ = (x4_1 ++ [t178]) := ⟨_, rfl⟩
            replace H : (if 0 ≤ t179 then (if t179 ≤ (x5_1.size : Int) then (impl_GetCost.l0 k1 y180 (x5_1.extract (t179 : Int).toNat x5_1.size) (wrap64 (x11_1 + 1))) else (none)) else (none)) = some (r1, r2, r3, r4) := by first | (rw [hy180]; with_reducible exact H) | (have H2_ := (Option.bind_some _ _).symm.trans H; rw [hy180]; with_reducible exact H2_) | (have H2_ := (Option.bind_some _ _).symm.trans H; with_reducible exact H2_) | with_reducible exact H | (rw [hy180]; exact H) | exact H
            have Ny180 := Aside0.mk hy180
            clear hy180
            by_cases c11 : 0 ≤ t179
            · rw [if_pos c11] at H
              have c11b0 := eq_true c11
              have c11b1 : decide (0 ≤ t179) = true := decide_eq_true c11
              clear c11
              by_cases c12 : t179 ≤ (x5_1.size : Int)
              · rw [if_pos c12] at H
                have c12b0 := eq_true c12
                have c12b1 : decide (t179 ≤ (x5_1.size : Int)) = true := decide_eq_true c12
                clear c12
                have H' := Aside0.mk H
                clear H
                try go_wp2_with (first | ((with_reducible refine gate_callee (f := 64) rfl ?_); refine goesL_ (some 15) rfl rfl Try.func64 (by kernel_rfl) rfl #[.string x5_1] rfl (by (try simp only [List.map_toArray, List.map_cons, List.map_nil]); first | done | rfl | (simp only [List.length_drop, List.length_take]; rfl)) ?_; (with_reducible refine (impl_ReadVar.calls k1 x5_1 t178 t179 _ A6.out).mono ?_); rintro e w13 ⟨rfl, hb⟩; refine ⟨_, rfl, ?_⟩; have n0_ := Aside0.mk (Kd.R_below (by (with_reducible repeat (first | apply Kd.R_alloc | apply Kd.R_drewN | apply Kd.R_drew)); exact HO_4.out) hb); have n1_ := Aside0.mk (blk_below (g := gb174) (o := .cells #[.slice none 0 0, .slice none 0 0, .slice none 0 0] 27 (0, 0)) (by (with_reducible repeat (first | refine blk_drewN ?_ _ | refine blk_drew ?_ | refine blk_alloc ?_ _)); exact BK174.out) hb); have n2_ := Aside0.mk (below_step (by repeat (first | (with_reducible first | exact HB.out | apply below_alloc | apply pw_below_drewN | apply below_drew1 | refine below_set ?_ GE174.out) | exact HB.out)) hb); clear HO_4; clear BK174; clear HB; have HO_4 := n0_; have BK174 := n1_; have HB := n2_; clear n0_ n1_ n2_; (try clear hb); (try clear hb2); (try clear hk); (try clear hi)))
                have n0_ := Aside0.mk (Kd.R_drew HO_4.out)
                have n1_ := Aside0.mk (blk_drew BK174.out)
                have n2_ := Aside0.mk (below_drew1 HB.out)
                clear HO_4
                clear BK174
                clear HB
                have HO_4 := n0_
                have BK174 := n1_
                have HB := n2_
                clear n0_ n1_ n2_
                refine start_ (n := 9) (S := fun w' => True) (ds := []) bs23_0 (by kernel_rfl) rfl rfl trivial (fun hHeld => ?_); refine with_tabW impl_GetCost.tab7 impl_GetCost.bits7 (fun HT_ HW_ => ?_)
                generalize w13.drew = w14 at HO_4 BK174 HB hHeld ⊢
                refine pure_ (i := 0) (N := some 21) (v := ?_) (a' := ?_) bs23_1 rfl rfl (any_of HT_.out (by kernel_rfl)) (fun _ _ _ h => h) (Or.inl ⟨by rfl, ?_⟩) ?_ ?_
                rotate_left
                · intro w'
                  go_simp
                  with_reducible rfl
                rotate_left
                · simp only [Act.put, s1_, s2_, s3_, i64_w, i32_w]
                  rfl
                refine pure_ (i := 1) (N := some 22) (v := ?_) (a' := ?_) bs23_2 rfl rfl (any_of HT_.out (by kernel_rfl)) (fun _ _ _ h => h) (Or.inl ⟨by rfl, ?_⟩) ?_ ?_
                rotate_left
                · intro w'
                  go_simp
                  with_reducible rfl
                rotate_left
                · simp only [Act.put, s1_, s2_, s3_, i64_w, i32_w]
                  rfl
                refine pure_ (i := 4) (N := some 25) (v := ?_) (a' := ?_) bs23_3 rfl rfl (any_of HT_.out (by kernel_rfl)) (fun _ _ _ h => h) (Or.inl ⟨by rfl, ?_⟩) ?_ ?_
                rotate_left
                · intro w'
                  go_simp
                  with_reducible rfl
                rotate_left
                · simp only [Act.put, s1_, s2_, s3_, i64_w, i32_w]
                  rfl
                refine pure_ (i := 5) (N := some 26) (v := ?_) (a' := ?_) bs23_4 rfl rfl (any_of HT_.out (by kernel_rfl)) (fun _ _ _ h => h) (Or.inl ⟨by rfl, ?_⟩) ?_ ?_
                rotate_left
                · intro w'
                  go_simp
                  with_reducible rfl
                rotate_left
                · simp only [Act.put, s1_, s2_, s3_, i64_w, i32_w]
                  rfl
                refine pure_ (i := 6) (N := some 27) (v := ?_) (a' := ?_) #[true, true, false, false, true, true, true, false, false] rfl rfl (any_of HT_.out (by kernel_rfl)) (fun _ _ _ h => h) (Or.inl ⟨by rfl, ?_⟩) ?_ ?_
                rotate_left
                · intro w'
                  go_simp
                  with_reducible rfl
                rotate_left
                · simp only [Act.put, s1_, s2_, s3_, i64_w, i32_w]
                  rfl
                refine one_ (i := 2) (N := some 23) #[true, true, true, false, true, true, true, false, false] rfl rfl (one_of HT_.out (by kernel_rfl)) (by decide) (fun K hK => ?_)
                refine value_ (w1 := ?_) (v := ?_) (by rfl) rfl ?_ ?_
                rotate_left 2
                · go_simp
                  constructor
                  · rfl
                  · rfl
                refine hK.out _ _ trivial (fun hHeld => ?_)
                clear hK K
                refine norm_ (a' := ?_) ?_ ?_
                rotate_left
                · show Act.put _ (some 23) _ = _
                  simp only [Act.put, s1_, s2_, s3_, i64_w, i32_w]
                  rfl
                refine one_ (i := 3) (N := some 24) #[true, true, true, true, true, true, true, false, false] rfl rfl (one_of HT_.out (by kernel_rfl)) (by decide) (fun K hK => ?_)
                refine Kd.R_append_step (Kd.int .i64) (w0 := w) w.heap.size (by rfl) (.tmp 21) (.tmp 23) 22 3 (.int .i64 0) 8 rfl Try.underlying22 info3 rfl (by decide) (by omega) u4 x4_1 t178 [.int .i64 t178] (fun _ => True) (fun _ => False) rfl rfl ?aP (fun _ hk => hk.elim) ?aF ?aO ?aB ?aS ?aL ?_
                (case aP => exact rfl)
                (case aB => exact (by repeat (first | (with_reducible first | exact HB.out | apply below_alloc | apply pw_below_drewN | apply below_drew1 | refine below_set ?_ GE174.out) | exact HB.out)))
                (case aF => exact (fun _ _ => trivial))
                (case aO => exact (by (with_reducible repeat (first | apply Kd.R_alloc | apply Kd.R_drewN | apply Kd.R_drew)); exact HO_4.out))
                (case aS => exact (below_size (by repeat (first | (with_reducible first | exact HB.out | apply below_alloc | apply pw_below_drewN | apply below_drew1 | refine below_set ?_ GE174.out) | exact HB.out))))
                (case aL => have := LMc10.out; omega)
                intro v181 w15 ho hb hg hat
                rw [← Ny180.out] at ho
                have n0_ := Aside0.mk (blk_grown (g := gb174) (o := .cells #[.slice none 0 0, .slice none 0 0, .slice none 0 0] 27 (0, 0)) (by (with_reducible repeat (first | refine blk_drewN ?_ _ | refine blk_drew ?_ | refine blk_alloc ?_ _)); exact BK174.out) hg (Kd.R_ne HO_4.out BK174.out (by decide)))
                have n1_ := Aside0.mk (hb)
                have n2_ := Aside0.mk (ho)
                clear BK174
                clear HB
                clear HO_4
                have BK174 := n0_
                have HB := n1_
                have HO182 := n2_
                clear n0_ n1_ n2_
                clear ho hb hg hat
                refine hK.out _ _ trivial (fun hHeld => ?_)
                clear hK K
                refine norm_ (a' := ?_) ?_ ?_
                rotate_left
                · show Act.put _ (some 24) _ = _
                  simp only [Act.put, s1_, s2_, s3_, i64_w, i32_w]
                  rfl
                refine pure_ (i := 7) (N := some 4) (v := ?_) (a' := ?_) #[true, true, true, true, true, true, true, true, false] rfl rfl (any_of HT_.out (by kernel_rfl)) (fun _ _ _ h => h) (Or.inl ⟨by rfl, ?_⟩) ?_ ?_
                rotate_left
                · intro w'
                  go_simp
                  with_reducible rfl
                rotate_left
                · simp only [Act.put, s1_, s2_, s3_, i64_w, i32_w]
                  rfl
                refine pure_ (i := 8) (N := some 5) (v := ?_) (a' := ?_) #[true, true, true, true, true, true, true, true, true] rfl rfl (any_of HT_.out (by kernel_rfl)) (fun _ _ _ h => h) (Or.inl ⟨by rfl, ?_⟩) ?_ ?_
                rotate_left
                · intro w'
                  go_simp
                  with_reducible rfl
                rotate_left
                · simp only [Act.put, s1_, s2_, s3_, i64_w, i32_w]
                  rfl
                refine done_ (done_of HT_.out (by kernel_rfl)) ?_
                try go_wp2
                go_roundg k1
                case measure => have := HK1.out; omega
                case rel => exact ⟨(y180), (x5_1.extract (t179 : Int).toNat x5_1.size), (wrap64 (x11_1 + 1)), (by first | rfl | (simp; done) | (simp [*]; done)), (by first | rfl | (simp; done) | (simp [*]; done)), H', ⟨by have := HK1.out; omega⟩, ⟨by (with_reducible repeat (first | apply Kd.R_alloc | apply Kd.R_drewN | apply Kd.R_drew)); exact HO182.out⟩, ⟨by (with_reducible repeat (first | refine blk_drewN ?_ _ | refine blk_drew ?_ | refine blk_alloc ?_ _)); exact BK174.out⟩, ⟨by repeat (first | (with_reducible first | exact HB.out | apply below_alloc | apply pw_below_drewN | apply below_drew1 | refine below_set ?_ GE174.out) | exact HB.out)⟩⟩
              · rw [if_neg c12] at H
                exact absurd H (by simp)
            · rw [if_neg c11] at H
              exact absurd H (by simp)
          · rw [if_neg c10] at H
            exact absurd H (by simp)
      · rw [if_neg c5] at H
        have c5b0 : decide (x11_1 < 48) = false := decide_eq_false c5
        clear c5
        by_cases c16 : 6 ≤ (x4_1.length : Int)
        · rw [if_pos c16] at H
          have c16b0 := eq_true c16
          have c16b1 : decide (6 ≤ (x4_1.length : Int)) = true := decide_eq_true c16
          clear c16
          obtain ⟨y183, hy183⟩ : ∃ y_ : List Int, y_ = (x4_1.take 6) := ⟨_, rfl⟩
          replace H : ((slices_Clone_int_int.f y183).bind fun t187 => (if 6 ≤ 12 then (if 12 ≤ (x4_1.length : Int) then ((slices_Clone_int_int.f ((x4_1.take 12).drop 6)).bind fun t194 => ((slices_Clone_int_int.f (x4_1.drop 12)).bind fun t201 => (if x5_1.toList = ([] : List UInt8) then ((impl_CostOk.f k1 t187 t194 t201).bind fun t205 => (if t205 = true then (some (t187, t194, t201, true)) else (some (([] : List Int), ([] : List Int), ([] : List Int), false)))) else (some (([] : List Int), ([] : List Int), ([] : List Int), false))))) else (none)) else (none))) = some (r1, r2, r3, r4) := by first | (rw [hy183]; with_reducible exact H) | (have H2_ := (Option.bind_some _ _).symm.trans H; rw [hy183]; with_reducible exact H2_) | (have H2_ := (Option.bind_some _ _).symm.trans H; with_reducible exact H2_) | with_reducible exact H | (rw [hy183]; exact H) | exact H
          have Ny183 := Aside0.mk hy183
          clear hy183
          replace H := Option.bind_eq_some_iff.mp H
          obtain ⟨t187, A170, H⟩ := H
          replace H : (if 6 ≤ 12 then (if 12 ≤ (x4_1.length : Int) then ((slices_Clone_int_int.f ((x4_1.take 12).drop 6)).bind fun t194 => ((slices_Clone_int_int.f (x4_1.drop 12)).bind fun t201 => (if x5_1.toList = ([] : List UInt8) then ((impl_CostOk.f k1 t187 t194 t201).bind fun t205 => (if t205 = true then (some (t187, t194, t201, true)) else (some (([] : List Int), ([] : List Int), ([] : List Int), false)))) else (some (([] : List Int), ([] : List Int), ([] : List Int), false))))) else (none)) else (none)) = some (r1, r2, r3, r4) := H
          have A17 := Aside0.mk A170
          clear A170
          by_cases c18 : 6 ≤ 12
          · rw [if_pos c18] at H
            have c18b0 := eq_true c18
            have c18b1 : decide (6 ≤ 12) = true := decide_eq_true c18
            clear c18
            by_cases c19 : 12 ≤ (x4_1.length : Int)
            · rw [if_pos c19] at H
              have c19b0 := eq_true c19
              have c19b1 : decide (12 ≤ (x4_1.length : Int)) = true := decide_eq_true c19
              clear c19
              obtain ⟨y190, hy190⟩ : ∃ y_ : List Int, y_ = ((x4_1.take 12).drop 6) := ⟨_, rfl⟩
              replace H : ((slices_Clone_int_int.f y190).bind fun t194 => ((slices_Clone_int_int.f (x4_1.drop 12)).bind fun t201 => (if x5_1.toList = ([] : List UInt8) then ((impl_CostOk.f k1 t187 t194 t201).bind fun t205 => (if t205 = true then (some (t187, t194, t201, true)) else (some (([] : List Int), ([] : List Int), ([] : List Int), false)))) else (some (([] : List Int), ([] : List Int), ([] : List Int), false))))) = some (r1, r2, r3, r4) := by first | (rw [hy190]; with_reducible exact H) | (have H2_ := (Option.bind_some _ _).symm.trans H; rw [hy190]; with_reducible exact H2_) | (have H2_ := (Option.bind_some _ _).symm.trans H; with_reducible exact H2_) | with_reducible exact H | (rw [hy190]; exact H) | exact H
              have Ny190 := Aside0.mk hy190
              clear hy190
              replace H := Option.bind_eq_some_iff.mp H
              obtain ⟨t194, A200, H⟩ := H
              replace H : ((slices_Clone_int_int.f (x4_1.drop 12)).bind fun t201 => (if x5_1.toList = ([] : List UInt8) then ((impl_CostOk.f k1 t187 t194 t201).bind fun t205 => (if t205 = true then (some (t187, t194, t201, true)) else (some (([] : List Int), ([] : List Int), ([] : List Int), false)))) else (some (([] : List Int), ([] : List Int), ([] : List Int), false)))) = some (r1, r2, r3, r4) := H
              have A20 := Aside0.mk A200
              clear A200
              have c21b0 := eq_true (of_decide_eq_true (by first | (with_reducible assumption) | assumption) : 12 ≤ (x4_1.length : Int))
              obtain ⟨y197, hy197⟩ : ∃ y_ : List Int, y_ = (x4_1.drop 12) := ⟨_, rfl⟩
              replace H : ((slices_Clone_int_int.f y197).bind fun t201 => (if x5_1.toList = ([] : List UInt8) then ((impl_CostOk.f k1 t187 t194 t201).bind fun t205 => (if t205 = true then (some (t187, t194, t201, true)) else (some (([] : List Int), ([] : List Int), ([] : List Int), false)))) else (some (([] : List Int), ([] : List Int), ([] : List Int), false)))) = some (r1, r2, r3, r4) := by first | (rw [hy197]; with_reducible exact H) | (have H2_ := (Option.bind_some _ _).symm.trans H; rw [hy197]; with_reducible exact H2_) | (have H2_ := (Option.bind_some _ _).symm.trans H; with_reducible exact H2_) | with_reducible exact H | (rw [hy197]; exact H) | exact H
              have Ny197 := Aside0.mk hy197
              clear hy197
              replace H := Option.bind_eq_some_iff.mp H
              obtain ⟨t201, A220, H⟩ := H
              replace H : (if x5_1.toList = ([] : List UInt8) then ((impl_CostOk.f k1 t187 t194 t201).bind fun t205 => (if t205 = true then (some (t187, t194, t201, true)) else (some (([] : List Int), ([] : List Int), ([] : List Int), false)))) else (some (([] : List Int), ([] : List Int), ([] : List Int), false))) = some (r1, r2, r3, r4) := H
              have A22 := Aside0.mk A220
              clear A220
              have HCw := Aside0.mk H
              clear H
              try go_wp2
              have n0_ := Aside0.mk (Kd.R_drew HO_4.out)
              have n1_ := Aside0.mk (blk_drew BK174.out)
              have n2_ := Aside0.mk (below_drew1 HB.out)
              clear HO_4
              clear BK174
              clear HB
              have HO_4 := n0_
              have BK174 := n1_
              have HB := n2_
              clear n0_ n1_ n2_
              obtain ⟨Ao28, co28, eo28⟩ := Kd.R_slice HO_4.out
              (first | subst eo28 | (injection eo28 with f1_ f2_ f3_; have f4_ := f1_.symm; have f5_ := f3_.symm; clear f1_ f2_ f3_; subst f4_; subst f5_))
              have q27 : (6 : Int) ≤ ((x4_1.length : Int) : Int) := of_decide_eq_true (by first | (with_reducible assumption) | assumption)
              obtain ⟨i027, hi027, _, hsz27, _⟩ := info_parts info3
              have hroom27 : x4_1.length ≤ co28 := (Kd.R_reads' HO_4.out).2.1
              have hC27 : Kd.C (Kd.int .i64) _ Ao28 x4_1.length x4_1 := (Kd.R_reads' HO_4.out).2.2
              have hcut27 := cut_to (P := Try.prog) 22 3 .i64 Try.underlying22 hi027 Ao28 x4_1.length co28 6 (by omega) q27 hroom27
              have hr27 := Kd.C_take (m := 6) hC27 (by omega)
              have hy27 : y183.length = (6 : Int).toNat := (by rw [Ny183.out, List.length_take]; omega)
              rw [← Ny183.out] at hr27
              rw [← hy27] at hcut27
              have HR186 := Aside0.mk hr27
              have HC186 := Aside0.mk (show y183.length ≤ co28 from by omega)
              clear hr27 hC27 hroom27 hi027 hsz27
              have KY27 := Aside0.mk hy27
              clear hy27
              have KL27 := Aside0.mk (show 6 ≤ x4_1.length from by omega)
              replace q27 := eq_true q27
              have q29 : (12 : Int) ≤ ((x4_1.length : Int) : Int) := of_decide_eq_true (by first | (with_reducible assumption) | assumption)
              obtain ⟨i029, hi029, _, hsz29, _⟩ := info_parts info3
              have hroom29 : x4_1.length ≤ co28 := (Kd.R_reads' HO_4.out).2.1
              have hC29 : Kd.C (Kd.int .i64) _ Ao28 x4_1.length x4_1 := (Kd.R_reads' HO_4.out).2.2
              have ql29 : (6 : Int) ≤ (12 : Int) := (by omega)
              have hcut29 := cut_mid (P := Try.prog) 22 3 .i64 .i64 Try.underlying22 hi029 1 hsz29 Ao28 x4_1.length co28 6 12 (by omega) ql29 q29 hroom29
              have hr29 := Kd.C_mid (lo := (6 : Int).toNat) (hi := (12 : Int).toNat) (c := co28) hC29 (by omega) (by omega) hroom29
              obtain ⟨A29, hA29⟩ : ∃ A1, A1 = (if co28 = (6 : Int).toNat then Ao28 else (Ao28 : Option Addr).map (·.add ((6 : Int).toNat * 1))) := ⟨_, rfl⟩
              obtain ⟨c29, hc29⟩ : ∃ c1, c1 = co28 - (6 : Int).toNat := ⟨_, rfl⟩
              have hy29 : y190.length = (12 : Int).toNat - (6 : Int).toNat := (by rw [Ny190.out, List.length_drop, List.length_take] <;> omega)
              rw [show ((x4_1).take (12 : Int).toNat).drop (6 : Int).toNat = y190 from Ny190.out.symm] at hr29
              replace hr29 : Kd.C (Kd.int .i64) _ A29 y190.length y190 := (by rw [hA29]; exact hr29)
              rw [← hy29, ← hA29, ← hc29] at hcut29
              have HR193 := Aside0.mk hr29
              have HC193 := Aside0.mk (show y190.length ≤ c29 from by rw [hy29, hc29]; exact Nat.sub_le_sub_right (Nat.le_trans (by omega) hroom29) _)
              clear hr29 hC29 hroom29 hi029 hsz29 hc29
              have KY29 := Aside0.mk hy29
              have KA29 := Aside0.mk hA29
              clear hy29 hA29
              have KL29 := Aside0.mk (show 12 ≤ x4_1.length from by omega)
              have KM29 := Aside0.mk (show 6 ≤ 12 from by omega)
              replace q29 := eq_true q29
              have q30 : (12 : Int) ≤ ((x4_1.length : Int) : Int) := of_decide_eq_true (by first | (with_reducible assumption) | assumption)
              obtain ⟨i030, hi030, _, hsz30, _⟩ := info_parts info3
              have hroom30 : x4_1.length ≤ co28 := (Kd.R_reads' HO_4.out).2.1
              have hC30 : Kd.C (Kd.int .i64) _ Ao28 x4_1.length x4_1 := (Kd.R_reads' HO_4.out).2.2
              have hcut30 := cut_from (P := Try.prog) 22 3 .i64 Try.underlying22 hi030 1 hsz30 Ao28 x4_1.length co28 12 (by omega) q30
              have hr30 := Kd.C_drop (m := (12 : Int).toNat) (c := co28) hC30 (by omega) hroom30
              obtain ⟨A30, hA30⟩ : ∃ A1, A1 = (if co28 = (12 : Int).toNat then Ao28 else (Ao28 : Option Addr).map (·.add ((12 : Int).toNat * 1))) := ⟨_, rfl⟩
              obtain ⟨c30, hc30⟩ : ∃ c1, c1 = co28 - (12 : Int).toNat := ⟨_, rfl⟩
              have hy30 : y197.length = x4_1.length - (12 : Int).toNat := (by rw [Ny197.out, List.length_drop] <;> omega)
              rw [show (x4_1).drop (12 : Int).toNat = y197 from Ny197.out.symm] at hr30
              replace hr30 : Kd.C (Kd.int .i64) _ A30 y197.length y197 := (by rw [hA30]; exact hr30)
              rw [← hy30, ← hA30, ← hc30] at hcut30
              have HR200 := Aside0.mk hr30
              have HC200 := Aside0.mk (show y197.length ≤ c30 from by rw [hy30, hc30]; exact Nat.sub_le_sub_right hroom30 _)
              clear hr30 hC30 hroom30 hi030 hsz30 hc30
              have KY30 := Aside0.mk hy30
              have KA30 := Aside0.mk hA30
              clear hy30 hA30
              have KL30 := Aside0.mk (show 12 ≤ x4_1.length from by omega)
              replace q30 := eq_true q30
              refine start_ (n := 12) (S := fun w' => True) (ds := []) bs23_5 (by kernel_rfl) rfl rfl trivial (fun hHeld => ?_); refine with_tabW impl_GetCost.tab9 impl_GetCost.bits9 (fun HT_ HW_ => ?_)
              generalize wr.drew = w26 at HO_4 BK174 HB HR186 HR193 HR200 hHeld ⊢
              refine pure_ (i := 0) (N := some 29) (v := ?_) (a' := ?_) bs23_6 rfl rfl (any_of HT_.out (by kernel_rfl)) (fun _ _ _ h => h) (Or.inl ⟨by rfl, ?_⟩) ?_ ?_
              rotate_left
              · intro w'
                go_simp
                with_reducible rfl
              rotate_left
              · simp only [Act.put, s1_, s2_, s3_, i64_w, i32_w]
                rfl
              refine pure_ (i := 1) (N := some 30) (v := ?_) (a' := ?_) bs23_7 rfl rfl (any_of HT_.out (by kernel_rfl)) (fun _ _ _ h => h) (Or.inl ⟨by rfl, ?_⟩) ?_ ?_
              rotate_left
              · intro w'
                go_simp
                with_reducible rfl
              rotate_left
              · simp only [Act.put, s1_, s2_, s3_, i64_w, i32_w]
                rfl
              refine pure_ (i := 3) (N := some 32) (v := ?_) (a' := ?_) bs23_8 rfl rfl (any_of HT_.out (by kernel_rfl)) (fun _ _ _ h => h) (Or.inl ⟨by rfl, ?_⟩) ?_ ?_
              rotate_left
              · intro w'
                go_simp
                with_reducible rfl
              rotate_left
              · simp only [Act.put, s1_, s2_, s3_, i64_w, i32_w]
                rfl
              refine pure_ (i := 4) (N := some 33) (v := ?_) (a' := ?_) bs23_9 rfl rfl (any_of HT_.out (by kernel_rfl)) (fun _ _ _ h => h) (Or.inl ⟨by rfl, ?_⟩) ?_ ?_
              rotate_left
              · intro w'
                go_simp
                with_reducible rfl
              rotate_left
              · simp only [Act.put, s1_, s2_, s3_, i64_w, i32_w]
                rfl
              refine pure_ (i := 6) (N := some 35) (v := ?_) (a' := ?_) bs23_10 rfl rfl (any_of HT_.out (by kernel_rfl)) (fun _ _ _ h => h) (Or.inl ⟨by rfl, ?_⟩) ?_ ?_
              rotate_left
              · intro w'
                go_simp
                with_reducible rfl
              rotate_left
              · simp only [Act.put, s1_, s2_, s3_, i64_w, i32_w]
                rfl
              refine pure_ (i := 7) (N := some 36) (v := ?_) (a' := ?_) bs23_11 rfl rfl (any_of HT_.out (by kernel_rfl)) (fun _ _ _ h => h) (Or.inl ⟨by rfl, ?_⟩) ?_ ?_
              rotate_left
              · intro w'
                go_simp
                with_reducible rfl
              rotate_left
              · simp only [Act.put, s1_, s2_, s3_, i64_w, i32_w]
                rfl
              refine join_ (σ := Value × Value × Value × Nat) 1 bs23_12 (fun s_ => [(31, s_.1), (34, s_.2.1), (37, s_.2.2.1), (8, .pointer (some ⟨s_.2.2.2, 0, none⟩)), (38, .agg #[s_.1, s_.2.1, s_.2.2.1])]) (fun s_ w' => (Kd.R (Kd.int .i64) 3 w' w.heap.size (fun k_ => some k_ ≠ (s_.2.1 : Value).ownBlock ∧ some k_ ≠ (s_.2.2.1 : Value).ownBlock ∧ some k_ ≠ (.slice Ao28 x4_1.length co28 : Value).ownBlock) s_.1 t187) ∧ (Kd.R (Kd.int .i64) 3 w' w.heap.size (fun k_ => some k_ ≠ (s_.1 : Value).ownBlock ∧ some k_ ≠ (s_.2.2.1 : Value).ownBlock ∧ some k_ ≠ (.slice Ao28 x4_1.length co28 : Value).ownBlock) s_.2.1 t194) ∧ (Kd.R (Kd.int .i64) 3 w' w.heap.size (fun k_ => some k_ ≠ (s_.1 : Value).ownBlock ∧ some k_ ≠ (s_.2.1 : Value).ownBlock ∧ some k_ ≠ (.slice Ao28 x4_1.length co28 : Value).ownBlock) s_.2.2.1 t201) ∧ (Kd.R (Kd.int .i64) 3 w' w.heap.size (fun k_ => some k_ ≠ (s_.1 : Value).ownBlock ∧ some k_ ≠ (s_.2.1 : Value).ownBlock ∧ some k_ ≠ (s_.2.2.1 : Value).ownBlock) (.slice Ao28 x4_1.length co28) x4_1) ∧ (w'.heap[gb174]? = some (.cells #[.slice none 0 0, .slice none 0 0, .slice none 0 0] 27 (0, 0))) ∧ (w'.heap[s_.2.2.2]? = some (.cells #[.slice none 0 0, .slice none 0 0, .slice none 0 0] 27 (0, 0))) ∧ (w.heap.size ≤ s_.2.2.2) ∧ (w.heap.size ≤ s_.2.2.2) ∧ (gb174 ≠ s_.2.2.2) ∧ (s_.2.2.2 ≠ gb174) ∧ (Below w.heap.size w w')) ?_ ?_
              rotate_left
              · intro hCont
                refine two_ (i := 2) (j := 10) (Ni := some 31) (Nj := some 8) bs23_13 bs23_14 rfl rfl rfl rfl (two_of HT_.out (by kernel_rfl)) (by decide) (by decide) (fun K hK => ?_) (fun K hK => ?_)
                · skip
                  refine goes_ Try.func65 (by kernel_rfl) rfl #[.slice Ao28 y183.length co28] (by rfl) rfl rfl (by (try simp only [List.map_toArray, List.map_cons, List.map_nil]); first | done | rfl | (simp only [List.length_drop, List.length_take]; rfl)) ?_
                  with_reducible refine (slices_Clone_int_int.calls _ _ y183 t187 _ ?side1 ?side2 A17.out).mono ?_
                  (case side1 => repeat (first | exact HR186.out | (with_reducible refine Kd.C_alloc ?_ _) | (with_reducible refine Kd.C_drewN ?_ _) | (with_reducible refine Kd.C_drew ?_))); (case side2 => exact HC186.out); rintro e w31 ⟨v188, rfl, ho0, hb⟩; refine ⟨_, rfl, ?_⟩; have n0_ := Aside0.mk (Kd.R_elder' HO_4.out (Kd.R_base ho0) hb); have n1_ := Aside0.mk (Kd.R_lower (Kd.R_new' ho0 (Kd.R_lt HO_4.out)) (below_size HB.out)); have n2_ := Aside0.mk (blk_below (g := gb174) (o := .cells #[.slice none 0 0, .slice none 0 0, .slice none 0 0] 27 (0, 0)) BK174.out hb); have n3_ := Aside0.mk (Kd.C_below HR186.out hb); have n4_ := Aside0.mk (Kd.C_below HR193.out hb); have n5_ := Aside0.mk (Kd.C_below HR200.out hb); have n6_ := Aside0.mk (below_step HB.out hb); clear HO_4 BK174 HR186 HR193 HR200 HB; have HO_4 := n0_; have HO189 := n1_; have BK174 := n2_; have HR186 := n3_; have HR193 := n4_; have HR200 := n5_; have HB := n6_; clear n0_ n1_ n2_ n3_ n4_ n5_ n6_; (try clear hb); (try clear hb2); (try clear hk); (try clear hi); (try clear ho0); refine hK.out _ _ trivial (fun hHeld => ?_); clear hK K
                  refine norm_ (a' := ?_) ?_ ?_
                  rotate_left
                  · show Act.put _ (some 31) _ = _
                    simp only [Act.put, s1_, s2_, s3_, i64_w, i32_w]; rfl
                  refine two_ (i := 5) (j := 10) (Ni := some 34) (Nj := some 8) bs23_15 bs23_16 rfl rfl rfl rfl (two_of HT_.out (by kernel_rfl)) (by decide) (by decide) (fun K hK => ?_) (fun K hK => ?_)
                  · skip
                    refine goes_ Try.func65 (by kernel_rfl) rfl #[.slice A29 y190.length c29] (by rfl) rfl rfl (by (try simp only [List.map_toArray, List.map_cons, List.map_nil]); first | done | rfl | (simp only [List.length_drop, List.length_take]; rfl)) ?_
                    with_reducible refine (slices_Clone_int_int.calls _ _ y190 t194 _ ?side1 ?side2 A20.out).mono ?_
                    (case side1 => repeat (first | exact HR193.out | (with_reducible refine Kd.C_alloc ?_ _) | (with_reducible refine Kd.C_drewN ?_ _) | (with_reducible refine Kd.C_drew ?_))); (case side2 => exact HC193.out); rintro e w32 ⟨v195, rfl, ho0, hb⟩; refine ⟨_, rfl, ?_⟩; have n0_ := Aside0.mk (Kd.R_elder' HO_4.out (Kd.R_base ho0) hb); have n1_ := Aside0.mk (Kd.R_elder' HO189.out (Kd.R_base ho0) hb); have n2_ := Aside0.mk (Kd.R_lower (Kd.R_new' (Kd.R_new' ho0 (Kd.R_lt HO_4.out)) (Kd.R_lt HO189.out)) (below_size HB.out)); have n3_ := Aside0.mk (blk_below (g := gb174) (o := .cells #[.slice none 0 0, .slice none 0 0, .slice none 0 0] 27 (0, 0)) BK174.out hb); have n4_ := Aside0.mk (Kd.C_below HR186.out hb); have n5_ := Aside0.mk (Kd.C_below HR193.out hb); have n6_ := Aside0.mk (Kd.C_below HR200.out hb); have n7_ := Aside0.mk (below_step HB.out hb); clear HO_4 HO189 BK174 HR186 HR193 HR200 HB; have HO_4 := n0_; have HO189 := n1_; have HO196 := n2_; have BK174 := n3_; have HR186 := n4_; have HR193 := n5_; have HR200 := n6_; have HB := n7_; clear n0_ n1_ n2_ n3_ n4_ n5_ n6_ n7_; (try clear hb); (try clear hb2); (try clear hk); (try clear hi); (try clear ho0); refine hK.out _ _ trivial (fun hHeld => ?_); clear hK K
                    refine norm_ (a' := ?_) ?_ ?_
                    rotate_left
                    · show Act.put _ (some 34) _ = _
                      simp only [Act.put, s1_, s2_, s3_, i64_w, i32_w]; rfl
                    refine two_ (i := 8) (j := 10) (Ni := some 37) (Nj := some 8) bs23_17 bs23_18 rfl rfl rfl rfl (two_of HT_.out (by kernel_rfl)) (by decide) (by decide) (fun K hK => ?_) (fun K hK => ?_)
                    · skip
                      refine goes_ Try.func65 (by kernel_rfl) rfl #[.slice A30 y197.length c30] (by rfl) rfl rfl (by (try simp only [List.map_toArray, List.map_cons, List.map_nil]); first | done | rfl | (simp only [List.length_drop, List.length_take]; rfl)) ?_
                      with_reducible refine (slices_Clone_int_int.calls _ _ y197 t201 _ ?side1 ?side2 A22.out).mono ?_
                      (case side1 => repeat (first | exact HR200.out | (with_reducible refine Kd.C_alloc ?_ _) | (with_reducible refine Kd.C_drewN ?_ _) | (with_reducible refine Kd.C_drew ?_))); (case side2 => exact HC200.out); rintro e w33 ⟨v202, rfl, ho0, hb⟩; refine ⟨_, rfl, ?_⟩; have n0_ := Aside0.mk (Kd.R_elder' HO_4.out (Kd.R_base ho0) hb); have n1_ := Aside0.mk (Kd.R_elder' HO189.out (Kd.R_base ho0) hb); have n2_ := Aside0.mk (Kd.R_elder' HO196.out (Kd.R_base ho0) hb); have n3_ := Aside0.mk (Kd.R_lower (Kd.R_new' (Kd.R_new' (Kd.R_new' ho0 (Kd.R_lt HO_4.out)) (Kd.R_lt HO189.out)) (Kd.R_lt HO196.out)) (below_size HB.out)); have n4_ := Aside0.mk (blk_below (g := gb174) (o := .cells #[.slice none 0 0, .slice none 0 0, .slice none 0 0] 27 (0, 0)) BK174.out hb); have n5_ := Aside0.mk (Kd.C_below HR186.out hb); have n6_ := Aside0.mk (Kd.C_below HR193.out hb); have n7_ := Aside0.mk (Kd.C_below HR200.out hb); have n8_ := Aside0.mk (below_step HB.out hb); clear HO_4 HO189 HO196 BK174 HR186 HR193 HR200 HB; have HO_4 := n0_; have HO189 := n1_; have HO196 := n2_; have HO203 := n3_; have BK174 := n4_; have HR186 := n5_; have HR193 := n6_; have HR200 := n7_; have HB := n8_; clear n0_ n1_ n2_ n3_ n4_ n5_ n6_ n7_ n8_; (try clear hb); (try clear hb2); (try clear hk); (try clear hi); (try clear ho0); obtain ⟨Ao34, co34, eo34⟩ := Kd.R_slice HO203.out; (first | subst eo34 | (injection eo34 with f1_ f2_ f3_; have f4_ := f1_.symm; have f5_ := f3_.symm; clear f1_ f2_ f3_; subst f4_; subst f5_)); obtain ⟨Ao35, co35, eo35⟩ := Kd.R_slice HO196.out; (first | subst eo35 | (injection eo35 with f1_ f2_ f3_; have f4_ := f1_.symm; have f5_ := f3_.symm; clear f1_ f2_ f3_; subst f4_; subst f5_)); obtain ⟨Ao36, co36, eo36⟩ := Kd.R_slice HO189.out; (first | subst eo36 | (injection eo36 with f1_ f2_ f3_; have f4_ := f1_.symm; have f5_ := f3_.symm; clear f1_ f2_ f3_; subst f4_; subst f5_)); refine hK.out _ _ trivial (fun hHeld => ?_); clear hK K
                      refine norm_ (a' := ?_) ?_ ?_
                      rotate_left
                      · show Act.put _ (some 37) _ = _
                        simp only [Act.put, s1_, s2_, s3_, i64_w, i32_w]; rfl
                      refine pure_ (i := 9) (N := some 38) (v := ?_) (a' := ?_) bs23_19 rfl rfl (any_of HT_.out (by kernel_rfl)) (fun _ _ _ h => h) (Or.inl ⟨by rfl, ?_⟩) ?_ ?_
                      rotate_left
                      · intro w'
                        go_simp; with_reducible rfl
                      rotate_left
                      · simp only [Act.put, s1_, s2_, s3_, i64_w, i32_w]
                        rfl
                      refine one_ (i := 10) (N := some 8) bs23_12 rfl rfl (one_of HT_.out (by kernel_rfl)) (by decide) (fun K hK => ?_); refine box_step ?hg (N := 8) ?hd (cs := #[.slice none 0 0, .slice none 0 0, .slice none 0 0]) (t := 27) ?hr ?_; (case hd => rfl); (case hg => rfl); (case hr => first | (go_simp; done) | (go_simp; rfl)); intro gb204 hg w37 hbox hb; have n0_ := Aside0.mk (Kd.R_below HO_4.out hb); have n1_ := Aside0.mk (Kd.R_below HO189.out hb); have n2_ := Aside0.mk (Kd.R_below HO196.out hb); have n3_ := Aside0.mk (Kd.R_below HO203.out hb); have n4_ := Aside0.mk (blk_below (g := gb174) (o := .cells #[.slice none 0 0, .slice none 0 0, .slice none 0 0] 27 (0, 0)) BK174.out hb); have n5_ := Aside0.mk (Kd.C_below HR186.out hb); have n6_ := Aside0.mk (Kd.C_below HR193.out hb); have n7_ := Aside0.mk (Kd.C_below HR200.out hb); have n8_ := Aside0.mk (below_step HB.out hb); have n9_ := Aside0.mk (hbox); have n10_ := Aside0.mk ((by rw [hg]; exact (below_size HB.out) : w.heap.size ≤ gb204)); have n11_ := Aside0.mk ((by rw [hg]; exact (below_size HB.out) : w.heap.size ≤ gb204)); have n12_ := Aside0.mk ((by rw [hg]; exact Nat.ne_of_lt (blk_lt (g := gb174) (o := .cells #[.slice none 0 0, .slice none 0 0, .slice none 0 0] 27 (0, 0)) BK174.out) : gb174 ≠ gb204)); have n13_ := Aside0.mk ((by rw [hg]; exact Nat.ne_of_gt (blk_lt (g := gb174) (o := .cells #[.slice none 0 0, .slice none 0 0, .slice none 0 0] 27 (0, 0)) BK174.out) : gb204 ≠ gb174)); clear HO_4 HO189 HO196 HO203 BK174 HR186 HR193 HR200 HB; have HO_4 := n0_; have HO189 := n1_; have HO196 := n2_; have HO203 := n3_; have BK174 := n4_; have HR186 := n5_; have HR193 := n6_; have HR200 := n7_; have HB := n8_; have BK204 := n9_; have GW204 := n10_; have GE204 := n11_; have NB174_204 := n12_; have NB204_174 := n13_; clear n0_ n1_ n2_ n3_ n4_ n5_ n6_ n7_ n8_ n9_ n10_ n11_ n12_ n13_ hb hbox hg; refine hK.out _ _ trivial (fun hHeld => ?_); clear hK K; exact norm_ (by show Act.put _ (some 8) _ = _; first | (simp only [putAll, Act.put, s1_, s2_, s3_]; done) | (simp only [putAll, Act.put, s1_, s2_, s3_]; rfl)) (hCont (.slice Ao36 t187.length co36, .slice Ao35 t194.length co35, .slice Ao34 t201.length co34, gb204) _ ⟨(Kd.R_mono HO189.out (fun _ hk => ⟨hk.1.2, ⟨hk.2, hk.1.1.2⟩⟩)), (Kd.R_mono HO196.out (fun _ hk => ⟨hk.1.2, ⟨hk.2, hk.1.1.2⟩⟩)), (Kd.R_mono HO203.out (fun _ hk => ⟨hk.1.2, ⟨hk.2, hk.1.1.2⟩⟩)), (Kd.R_mono HO_4.out (fun _ hk => ⟨hk.1.1.2, ⟨hk.1.2, hk.2⟩⟩)), BK174.out, BK204.out, GW204.out, GE204.out, NB174_204.out, NB204_174.out, HB.out⟩)
                    · skip
                      refine box_step ?hg (N := 8) ?hd (cs := #[.slice none 0 0, .slice none 0 0, .slice none 0 0]) (t := 27) ?hr ?_; (case hd => rfl); (case hg => rfl); (case hr => first | (go_simp; done) | (go_simp; rfl)); intro gb204 hg w33 hbox hb; have n0_ := Aside0.mk (Kd.R_below HO_4.out hb); have n1_ := Aside0.mk (Kd.R_below HO189.out hb); have n2_ := Aside0.mk (Kd.R_below HO196.out hb); have n3_ := Aside0.mk (blk_below (g := gb174) (o := .cells #[.slice none 0 0, .slice none 0 0, .slice none 0 0] 27 (0, 0)) BK174.out hb); have n4_ := Aside0.mk (Kd.C_below HR186.out hb); have n5_ := Aside0.mk (Kd.C_below HR193.out hb); have n6_ := Aside0.mk (Kd.C_below HR200.out hb); have n7_ := Aside0.mk (below_step HB.out hb); have n8_ := Aside0.mk (hbox); have n9_ := Aside0.mk ((by rw [hg]; exact (below_size HB.out) : w.heap.size ≤ gb204)); have n10_ := Aside0.mk ((by rw [hg]; exact (below_size HB.out) : w.heap.size ≤ gb204)); have n11_ := Aside0.mk ((by rw [hg]; exact Nat.ne_of_lt (blk_lt (g := gb174) (o := .cells #[.slice none 0 0, .slice none 0 0, .slice none 0 0] 27 (0, 0)) BK174.out) : gb174 ≠ gb204)); have n12_ := Aside0.mk ((by rw [hg]; exact Nat.ne_of_gt (blk_lt (g := gb174) (o := .cells #[.slice none 0 0, .slice none 0 0, .slice none 0 0] 27 (0, 0)) BK174.out) : gb204 ≠ gb174)); clear HO_4 HO189 HO196 BK174 HR186 HR193 HR200 HB; have HO_4 := n0_; have HO189 := n1_; have HO196 := n2_; have BK174 := n3_; have HR186 := n4_; have HR193 := n5_; have HR200 := n6_; have HB := n7_; have BK204 := n8_; have GW204 := n9_; have GE204 := n10_; have NB174_204 := n11_; have NB204_174 := n12_; clear n0_ n1_ n2_ n3_ n4_ n5_ n6_ n7_ n8_ n9_ n10_ n11_ n12_ hb hbox hg; refine hK.out _ _ trivial (fun hHeld => ?_); clear hK K
                      refine norm_ (a' := ?_) ?_ ?_
                      rotate_left
                      · show Act.put _ (some 8) _ = _
                        simp only [Act.put, s1_, s2_, s3_, i64_w, i32_w]; rfl
                      refine one_ (i := 8) (N := some 37) bs23_20 rfl rfl (one_of HT_.out (by kernel_rfl)) (by decide) (fun K hK => ?_)
                      refine goes_ Try.func65 (by kernel_rfl) rfl #[.slice A30 y197.length c30] (by rfl) rfl rfl (by (try simp only [List.map_toArray, List.map_cons, List.map_nil]); first | done | rfl | (simp only [List.length_drop, List.length_take]; rfl)) ?_
                      with_reducible refine (slices_Clone_int_int.calls _ _ y197 t201 _ ?side1 ?side2 A22.out).mono ?_
                      (case side1 => repeat (first | exact HR200.out | (with_reducible refine Kd.C_alloc ?_ _) | (with_reducible refine Kd.C_drewN ?_ _) | (with_reducible refine Kd.C_drew ?_))); (case side2 => exact HC200.out); rintro e w34 ⟨v202, rfl, ho0, hb⟩; refine ⟨_, rfl, ?_⟩; have n0_ := Aside0.mk (Kd.R_elder' HO_4.out (Kd.R_base ho0) hb); have n1_ := Aside0.mk (Kd.R_elder' HO189.out (Kd.R_base ho0) hb); have n2_ := Aside0.mk (Kd.R_elder' HO196.out (Kd.R_base ho0) hb); have n3_ := Aside0.mk (Kd.R_lower (Kd.R_new' (Kd.R_new' (Kd.R_new' ho0 (Kd.R_lt HO_4.out)) (Kd.R_lt HO189.out)) (Kd.R_lt HO196.out)) (below_size HB.out)); have n4_ := Aside0.mk (blk_below (g := gb174) (o := .cells #[.slice none 0 0, .slice none 0 0, .slice none 0 0] 27 (0, 0)) BK174.out hb); have n5_ := Aside0.mk (Kd.C_below HR186.out hb); have n6_ := Aside0.mk (Kd.C_below HR193.out hb); have n7_ := Aside0.mk (Kd.C_below HR200.out hb); have n8_ := Aside0.mk (blk_below (g := gb204) (o := .cells #[.slice none 0 0, .slice none 0 0, .slice none 0 0] 27 (0, 0)) BK204.out hb); have n9_ := Aside0.mk (below_step HB.out hb); clear HO_4 HO189 HO196 BK174 HR186 HR193 HR200 BK204 HB; have HO_4 := n0_; have HO189 := n1_; have HO196 := n2_; have HO203 := n3_; have BK174 := n4_; have HR186 := n5_; have HR193 := n6_; have HR200 := n7_; have BK204 := n8_; have HB := n9_; clear n0_ n1_ n2_ n3_ n4_ n5_ n6_ n7_ n8_ n9_; (try clear hb); (try clear hb2); (try clear hk); (try clear hi); (try clear ho0); obtain ⟨Ao35, co35, eo35⟩ := Kd.R_slice HO203.out; (first | subst eo35 | (injection eo35 with f1_ f2_ f3_; have f4_ := f1_.symm; have f5_ := f3_.symm; clear f1_ f2_ f3_; subst f4_; subst f5_)); obtain ⟨Ao36, co36, eo36⟩ := Kd.R_slice HO196.out; (first | subst eo36 | (injection eo36 with f1_ f2_ f3_; have f4_ := f1_.symm; have f5_ := f3_.symm; clear f1_ f2_ f3_; subst f4_; subst f5_)); obtain ⟨Ao37, co37, eo37⟩ := Kd.R_slice HO189.out; (first | subst eo37 | (injection eo37 with f1_ f2_ f3_; have f4_ := f1_.symm; have f5_ := f3_.symm; clear f1_ f2_ f3_; subst f4_; subst f5_)); refine hK.out _ _ trivial (fun hHeld => ?_); clear hK K
                      refine norm_ (a' := ?_) ?_ ?_
                      rotate_left
                      · show Act.put _ (some 37) _ = _
                        simp only [Act.put, s1_, s2_, s3_, i64_w, i32_w]; rfl
                      refine pure_ (i := 9) (N := some 38) (v := ?_) (a' := ?_) bs23_12 rfl rfl (any_of HT_.out (by kernel_rfl)) (fun _ _ _ h => h) (Or.inl ⟨by rfl, ?_⟩) ?_ ?_
                      rotate_left
                      · intro w'
                        go_simp; with_reducible rfl
                      rotate_left
                      · simp only [Act.put, s1_, s2_, s3_, i64_w, i32_w]
                        rfl
                      exact norm_ (by simp only [putAll, Act.put, s1_, s2_, s3_]) (hCont (.slice Ao37 t187.length co37, .slice Ao36 t194.length co36, .slice Ao35 t201.length co35, gb204) _ ⟨(Kd.R_mono HO189.out (fun _ hk => ⟨hk.1.2, ⟨hk.2, hk.1.1.2⟩⟩)), (Kd.R_mono HO196.out (fun _ hk => ⟨hk.1.2, ⟨hk.2, hk.1.1.2⟩⟩)), (Kd.R_mono HO203.out (fun _ hk => ⟨hk.1.2, ⟨hk.2, hk.1.1.2⟩⟩)), (Kd.R_mono HO_4.out (fun _ hk => ⟨hk.1.1.2, ⟨hk.1.2, hk.2⟩⟩)), BK174.out, BK204.out, GW204.out, GE204.out, NB174_204.out, NB204_174.out, HB.out⟩)
                  · skip
                    refine box_step ?hg (N := 8) ?hd (cs := #[.slice none 0 0, .slice none 0 0, .slice none 0 0]) (t := 27) ?hr ?_; (case hd => rfl); (case hg => rfl); (case hr => first | (go_simp; done) | (go_simp; rfl)); intro gb204 hg w32 hbox hb; have n0_ := Aside0.mk (Kd.R_below HO_4.out hb); have n1_ := Aside0.mk (Kd.R_below HO189.out hb); have n2_ := Aside0.mk (blk_below (g := gb174) (o := .cells #[.slice none 0 0, .slice none 0 0, .slice none 0 0] 27 (0, 0)) BK174.out hb); have n3_ := Aside0.mk (Kd.C_below HR186.out hb); have n4_ := Aside0.mk (Kd.C_below HR193.out hb); have n5_ := Aside0.mk (Kd.C_below HR200.out hb); have n6_ := Aside0.mk (below_step HB.out hb); have n7_ := Aside0.mk (hbox); have n8_ := Aside0.mk ((by rw [hg]; exact (below_size HB.out) : w.heap.size ≤ gb204)); have n9_ := Aside0.mk ((by rw [hg]; exact (below_size HB.out) : w.heap.size ≤ gb204)); have n10_ := Aside0.mk ((by rw [hg]; exact Nat.ne_of_lt (blk_lt (g := gb174) (o := .cells #[.slice none 0 0, .slice none 0 0, .slice none 0 0] 27 (0, 0)) BK174.out) : gb174 ≠ gb204)); have n11_ := Aside0.mk ((by rw [hg]; exact Nat.ne_of_gt (blk_lt (g := gb174) (o := .cells #[.slice none 0 0, .slice none 0 0, .slice none 0 0] 27 (0, 0)) BK174.out) : gb204 ≠ gb174)); clear HO_4 HO189 BK174 HR186 HR193 HR200 HB; have HO_4 := n0_; have HO189 := n1_; have BK174 := n2_; have HR186 := n3_; have HR193 := n4_; have HR200 := n5_; have HB := n6_; have BK204 := n7_; have GW204 := n8_; have GE204 := n9_; have NB174_204 := n10_; have NB204_174 := n11_; clear n0_ n1_ n2_ n3_ n4_ n5_ n6_ n7_ n8_ n9_ n10_ n11_ hb hbox hg; refine hK.out _ _ trivial (fun hHeld => ?_); clear hK K
                    refine norm_ (a' := ?_) ?_ ?_
                    rotate_left
                    · show Act.put _ (some 8) _ = _
                      simp only [Act.put, s1_, s2_, s3_, i64_w, i32_w]; rfl
                    refine one_ (i := 5) (N := some 34) bs23_18 rfl rfl (one_of HT_.out (by kernel_rfl)) (by decide) (fun K hK => ?_)
                    refine goes_ Try.func65 (by kernel_rfl) rfl #[.slice A29 y190.length c29] (by rfl) rfl rfl (by (try simp only [List.map_toArray, List.map_cons, List.map_nil]); first | done | rfl | (simp only [List.length_drop, List.length_take]; rfl)) ?_
                    with_reducible refine (slices_Clone_int_int.calls _ _ y190 t194 _ ?side1 ?side2 A20.out).mono ?_
                    (case side1 => repeat (first | exact HR193.out | (with_reducible refine Kd.C_alloc ?_ _) | (with_reducible refine Kd.C_drewN ?_ _) | (with_reducible refine Kd.C_drew ?_))); (case side2 => exact HC193.out); rintro e w33 ⟨v195, rfl, ho0, hb⟩; refine ⟨_, rfl, ?_⟩; have n0_ := Aside0.mk (Kd.R_elder' HO_4.out (Kd.R_base ho0) hb); have n1_ := Aside0.mk (Kd.R_elder' HO189.out (Kd.R_base ho0) hb); have n2_ := Aside0.mk (Kd.R_lower (Kd.R_new' (Kd.R_new' ho0 (Kd.R_lt HO_4.out)) (Kd.R_lt HO189.out)) (below_size HB.out)); have n3_ := Aside0.mk (blk_below (g := gb174) (o := .cells #[.slice none 0 0, .slice none 0 0, .slice none 0 0] 27 (0, 0)) BK174.out hb); have n4_ := Aside0.mk (Kd.C_below HR186.out hb); have n5_ := Aside0.mk (Kd.C_below HR193.out hb); have n6_ := Aside0.mk (Kd.C_below HR200.out hb); have n7_ := Aside0.mk (blk_below (g := gb204) (o := .cells #[.slice none 0 0, .slice none 0 0, .slice none 0 0] 27 (0, 0)) BK204.out hb); have n8_ := Aside0.mk (below_step HB.out hb); clear HO_4 HO189 BK174 HR186 HR193 HR200 BK204 HB; have HO_4 := n0_; have HO189 := n1_; have HO196 := n2_; have BK174 := n3_; have HR186 := n4_; have HR193 := n5_; have HR200 := n6_; have BK204 := n7_; have HB := n8_; clear n0_ n1_ n2_ n3_ n4_ n5_ n6_ n7_ n8_; (try clear hb); (try clear hb2); (try clear hk); (try clear hi); (try clear ho0); refine hK.out _ _ trivial (fun hHeld => ?_); clear hK K
                    refine norm_ (a' := ?_) ?_ ?_
                    rotate_left
                    · show Act.put _ (some 34) _ = _
                      simp only [Act.put, s1_, s2_, s3_, i64_w, i32_w]; rfl
                    refine one_ (i := 8) (N := some 37) bs23_20 rfl rfl (one_of HT_.out (by kernel_rfl)) (by decide) (fun K hK => ?_)
                    refine goes_ Try.func65 (by kernel_rfl) rfl #[.slice A30 y197.length c30] (by rfl) rfl rfl (by (try simp only [List.map_toArray, List.map_cons, List.map_nil]); first | done | rfl | (simp only [List.length_drop, List.length_take]; rfl)) ?_
                    with_reducible refine (slices_Clone_int_int.calls _ _ y197 t201 _ ?side1 ?side2 A22.out).mono ?_
                    (case side1 => repeat (first | exact HR200.out | (with_reducible refine Kd.C_alloc ?_ _) | (with_reducible refine Kd.C_drewN ?_ _) | (with_reducible refine Kd.C_drew ?_))); (case side2 => exact HC200.out); rintro e w34 ⟨v202, rfl, ho0, hb⟩; refine ⟨_, rfl, ?_⟩; have n0_ := Aside0.mk (Kd.R_elder' HO_4.out (Kd.R_base ho0) hb); have n1_ := Aside0.mk (Kd.R_elder' HO189.out (Kd.R_base ho0) hb); have n2_ := Aside0.mk (Kd.R_elder' HO196.out (Kd.R_base ho0) hb); have n3_ := Aside0.mk (Kd.R_lower (Kd.R_new' (Kd.R_new' (Kd.R_new' ho0 (Kd.R_lt HO_4.out)) (Kd.R_lt HO189.out)) (Kd.R_lt HO196.out)) (below_size HB.out)); have n4_ := Aside0.mk (blk_below (g := gb174) (o := .cells #[.slice none 0 0, .slice none 0 0, .slice none 0 0] 27 (0, 0)) BK174.out hb); have n5_ := Aside0.mk (Kd.C_below HR186.out hb); have n6_ := Aside0.mk (Kd.C_below HR193.out hb); have n7_ := Aside0.mk (Kd.C_below HR200.out hb); have n8_ := Aside0.mk (blk_below (g := gb204) (o := .cells #[.slice none 0 0, .slice none 0 0, .slice none 0 0] 27 (0, 0)) BK204.out hb); have n9_ := Aside0.mk (below_step HB.out hb); clear HO_4 HO189 HO196 BK174 HR186 HR193 HR200 BK204 HB; have HO_4 := n0_; have HO189 := n1_; have HO196 := n2_; have HO203 := n3_; have BK174 := n4_; have HR186 := n5_; have HR193 := n6_; have HR200 := n7_; have BK204 := n8_; have HB := n9_; clear n0_ n1_ n2_ n3_ n4_ n5_ n6_ n7_ n8_ n9_; (try clear hb); (try clear hb2); (try clear hk); (try clear hi); (try clear ho0); obtain ⟨Ao35, co35, eo35⟩ := Kd.R_slice HO203.out; (first | subst eo35 | (injection eo35 with f1_ f2_ f3_; have f4_ := f1_.symm; have f5_ := f3_.symm; clear f1_ f2_ f3_; subst f4_; subst f5_)); obtain ⟨Ao36, co36, eo36⟩ := Kd.R_slice HO196.out; (first | subst eo36 | (injection eo36 with f1_ f2_ f3_; have f4_ := f1_.symm; have f5_ := f3_.symm; clear f1_ f2_ f3_; subst f4_; subst f5_)); obtain ⟨Ao37, co37, eo37⟩ := Kd.R_slice HO189.out; (first | subst eo37 | (injection eo37 with f1_ f2_ f3_; have f4_ := f1_.symm; have f5_ := f3_.symm; clear f1_ f2_ f3_; subst f4_; subst f5_)); refine hK.out _ _ trivial (fun hHeld => ?_); clear hK K
                    refine norm_ (a' := ?_) ?_ ?_
                    rotate_left
                    · show Act.put _ (some 37) _ = _
                      simp only [Act.put, s1_, s2_, s3_, i64_w, i32_w]; rfl
                    refine pure_ (i := 9) (N := some 38) (v := ?_) (a' := ?_) bs23_12 rfl rfl (any_of HT_.out (by kernel_rfl)) (fun _ _ _ h => h) (Or.inl ⟨by rfl, ?_⟩) ?_ ?_
                    rotate_left
                    · intro w'
                      go_simp; with_reducible rfl
                    rotate_left
                    · simp only [Act.put, s1_, s2_, s3_, i64_w, i32_w]
                      rfl
                    exact norm_ (by simp only [putAll, Act.put, s1_, s2_, s3_]) (hCont (.slice Ao37 t187.length co37, .slice Ao36 t194.length co36, .slice Ao35 t201.length co35, gb204) _ ⟨(Kd.R_mono HO189.out (fun _ hk => ⟨hk.1.2, ⟨hk.2, hk.1.1.2⟩⟩)), (Kd.R_mono HO196.out (fun _ hk => ⟨hk.1.2, ⟨hk.2, hk.1.1.2⟩⟩)), (Kd.R_mono HO203.out (fun _ hk => ⟨hk.1.2, ⟨hk.2, hk.1.1.2⟩⟩)), (Kd.R_mono HO_4.out (fun _ hk => ⟨hk.1.1.2, ⟨hk.1.2, hk.2⟩⟩)), BK174.out, BK204.out, GW204.out, GE204.out, NB174_204.out, NB204_174.out, HB.out⟩)
                · skip
                  refine box_step ?hg (N := 8) ?hd (cs := #[.slice none 0 0, .slice none 0 0, .slice none 0 0]) (t := 27) ?hr ?_; (case hd => rfl); (case hg => rfl); (case hr => first | (go_simp; done) | (go_simp; rfl)); intro gb204 hg w31 hbox hb; have n0_ := Aside0.mk (Kd.R_below HO_4.out hb); have n1_ := Aside0.mk (blk_below (g := gb174) (o := .cells #[.slice none 0 0, .slice none 0 0, .slice none 0 0] 27 (0, 0)) BK174.out hb); have n2_ := Aside0.mk (Kd.C_below HR186.out hb); have n3_ := Aside0.mk (Kd.C_below HR193.out hb); have n4_ := Aside0.mk (Kd.C_below HR200.out hb); have n5_ := Aside0.mk (below_step HB.out hb); have n6_ := Aside0.mk (hbox); have n7_ := Aside0.mk ((by rw [hg]; exact (below_size HB.out) : w.heap.size ≤ gb204)); have n8_ := Aside0.mk ((by rw [hg]; exact (below_size HB.out) : w.heap.size ≤ gb204)); have n9_ := Aside0.mk ((by rw [hg]; exact Nat.ne_of_lt (blk_lt (g := gb174) (o := .cells #[.slice none 0 0, .slice none 0 0, .slice none 0 0] 27 (0, 0)) BK174.out) : gb174 ≠ gb204)); have n10_ := Aside0.mk ((by rw [hg]; exact Nat.ne_of_gt (blk_lt (g := gb174) (o := .cells #[.slice none 0 0, .slice none 0 0, .slice none 0 0] 27 (0, 0)) BK174.out) : gb204 ≠ gb174)); clear HO_4 BK174 HR186 HR193 HR200 HB; have HO_4 := n0_; have BK174 := n1_; have HR186 := n2_; have HR193 := n3_; have HR200 := n4_; have HB := n5_; have BK204 := n6_; have GW204 := n7_; have GE204 := n8_; have NB174_204 := n9_; have NB204_174 := n10_; clear n0_ n1_ n2_ n3_ n4_ n5_ n6_ n7_ n8_ n9_ n10_ hb hbox hg; refine hK.out _ _ trivial (fun hHeld => ?_); clear hK K
                  refine norm_ (a' := ?_) ?_ ?_
                  rotate_left
                  · show Act.put _ (some 8) _ = _
                    simp only [Act.put, s1_, s2_, s3_, i64_w, i32_w]; rfl
                  refine one_ (i := 2) (N := some 31) bs23_16 rfl rfl (one_of HT_.out (by kernel_rfl)) (by decide) (fun K hK => ?_)
                  refine goes_ Try.func65 (by kernel_rfl) rfl #[.slice Ao28 y183.length co28] (by rfl) rfl rfl (by (try simp only [List.map_toArray, List.map_cons, List.map_nil]); first | done | rfl | (simp only [List.length_drop, List.length_take]; rfl)) ?_
                  with_reducible refine (slices_Clone_int_int.calls _ _ y183 t187 _ ?side1 ?side2 A17.out).mono ?_
                  (case side1 => repeat (first | exact HR186.out | (with_reducible refine Kd.C_alloc ?_ _) | (with_reducible refine Kd.C_drewN ?_ _) | (with_reducible refine Kd.C_drew ?_))); (case side2 => exact HC186.out); rintro e w32 ⟨v188, rfl, ho0, hb⟩; refine ⟨_, rfl, ?_⟩; have n0_ := Aside0.mk (Kd.R_elder' HO_4.out (Kd.R_base ho0) hb); have n1_ := Aside0.mk (Kd.R_lower (Kd.R_new' ho0 (Kd.R_lt HO_4.out)) (below_size HB.out)); have n2_ := Aside0.mk (blk_below (g := gb174) (o := .cells #[.slice none 0 0, .slice none 0 0, .slice none 0 0] 27 (0, 0)) BK174.out hb); have n3_ := Aside0.mk (Kd.C_below HR186.out hb); have n4_ := Aside0.mk (Kd.C_below HR193.out hb); have n5_ := Aside0.mk (Kd.C_below HR200.out hb); have n6_ := Aside0.mk (blk_below (g := gb204) (o := .cells #[.slice none 0 0, .slice none 0 0, .slice none 0 0] 27 (0, 0)) BK204.out hb); have n7_ := Aside0.mk (below_step HB.out hb); clear HO_4 BK174 HR186 HR193 HR200 BK204 HB; have HO_4 := n0_; have HO189 := n1_; have BK174 := n2_; have HR186 := n3_; have HR193 := n4_; have HR200 := n5_; have BK204 := n6_; have HB := n7_; clear n0_ n1_ n2_ n3_ n4_ n5_ n6_ n7_; (try clear hb); (try clear hb2); (try clear hk); (try clear hi); (try clear ho0); refine hK.out _ _ trivial (fun hHeld => ?_); clear hK K
                  refine norm_ (a' := ?_) ?_ ?_
                  rotate_left
                  · show Act.put _ (some 31) _ = _
                    simp only [Act.put, s1_, s2_, s3_, i64_w, i32_w]; rfl
                  refine one_ (i := 5) (N := some 34) bs23_18 rfl rfl (one_of HT_.out (by kernel_rfl)) (by decide) (fun K hK => ?_)
                  refine goes_ Try.func65 (by kernel_rfl) rfl #[.slice A29 y190.length c29] (by rfl) rfl rfl (by (try simp only [List.map_toArray, List.map_cons, List.map_nil]); first | done | rfl | (simp only [List.length_drop, List.length_take]; rfl)) ?_
                  with_reducible refine (slices_Clone_int_int.calls _ _ y190 t194 _ ?side1 ?side2 A20.out).mono ?_
                  (case side1 => repeat (first | exact HR193.out | (with_reducible refine Kd.C_alloc ?_ _) | (with_reducible refine Kd.C_drewN ?_ _) | (with_reducible refine Kd.C_drew ?_))); (case side2 => exact HC193.out); rintro e w33 ⟨v195, rfl, ho0, hb⟩; refine ⟨_, rfl, ?_⟩; have n0_ := Aside0.mk (Kd.R_elder' HO_4.out (Kd.R_base ho0) hb); have n1_ := Aside0.mk (Kd.R_elder' HO189.out (Kd.R_base ho0) hb); have n2_ := Aside0.mk (Kd.R_lower (Kd.R_new' (Kd.R_new' ho0 (Kd.R_lt HO_4.out)) (Kd.R_lt HO189.out)) (below_size HB.out)); have n3_ := Aside0.mk (blk_below (g := gb174) (o := .cells #[.slice none 0 0, .slice none 0 0, .slice none 0 0] 27 (0, 0)) BK174.out hb); have n4_ := Aside0.mk (Kd.C_below HR186.out hb); have n5_ := Aside0.mk (Kd.C_below HR193.out hb); have n6_ := Aside0.mk (Kd.C_below HR200.out hb); have n7_ := Aside0.mk (blk_below (g := gb204) (o := .cells #[.slice none 0 0, .slice none 0 0, .slice none 0 0] 27 (0, 0)) BK204.out hb); have n8_ := Aside0.mk (below_step HB.out hb); clear HO_4 HO189 BK174 HR186 HR193 HR200 BK204 HB; have HO_4 := n0_; have HO189 := n1_; have HO196 := n2_; have BK174 := n3_; have HR186 := n4_; have HR193 := n5_; have HR200 := n6_; have BK204 := n7_; have HB := n8_; clear n0_ n1_ n2_ n3_ n4_ n5_ n6_ n7_ n8_; (try clear hb); (try clear hb2); (try clear hk); (try clear hi); (try clear ho0); refine hK.out _ _ trivial (fun hHeld => ?_); clear hK K
                  refine norm_ (a' := ?_) ?_ ?_
                  rotate_left
                  · show Act.put _ (some 34) _ = _
                    simp only [Act.put, s1_, s2_, s3_, i64_w, i32_w]; rfl
                  refine one_ (i := 8) (N := some 37) bs23_20 rfl rfl (one_of HT_.out (by kernel_rfl)) (by decide) (fun K hK => ?_)
                  refine goes_ Try.func65 (by kernel_rfl) rfl #[.slice A30 y197.length c30] (by rfl) rfl rfl (by (try simp only [List.map_toArray, List.map_cons, List.map_nil]); first | done | rfl | (simp only [List.length_drop, List.length_take]; rfl)) ?_
                  with_reducible refine (slices_Clone_int_int.calls _ _ y197 t201 _ ?side1 ?side2 A22.out).mono ?_
                  (case side1 => repeat (first | exact HR200.out | (with_reducible refine Kd.C_alloc ?_ _) | (with_reducible refine Kd.C_drewN ?_ _) | (with_reducible refine Kd.C_drew ?_))); (case side2 => exact HC200.out); rintro e w34 ⟨v202, rfl, ho0, hb⟩; refine ⟨_, rfl, ?_⟩; have n0_ := Aside0.mk (Kd.R_elder' HO_4.out (Kd.R_base ho0) hb); have n1_ := Aside0.mk (Kd.R_elder' HO189.out (Kd.R_base ho0) hb); have n2_ := Aside0.mk (Kd.R_elder' HO196.out (Kd.R_base ho0) hb); have n3_ := Aside0.mk (Kd.R_lower (Kd.R_new' (Kd.R_new' (Kd.R_new' ho0 (Kd.R_lt HO_4.out)) (Kd.R_lt HO189.out)) (Kd.R_lt HO196.out)) (below_size HB.out)); have n4_ := Aside0.mk (blk_below (g := gb174) (o := .cells #[.slice none 0 0, .slice none 0 0, .slice none 0 0] 27 (0, 0)) BK174.out hb); have n5_ := Aside0.mk (Kd.C_below HR186.out hb); have n6_ := Aside0.mk (Kd.C_below HR193.out hb); have n7_ := Aside0.mk (Kd.C_below HR200.out hb); have n8_ := Aside0.mk (blk_below (g := gb204) (o := .cells #[.slice none 0 0, .slice none 0 0, .slice none 0 0] 27 (0, 0)) BK204.out hb); have n9_ := Aside0.mk (below_step HB.out hb); clear HO_4 HO189 HO196 BK174 HR186 HR193 HR200 BK204 HB; have HO_4 := n0_; have HO189 := n1_; have HO196 := n2_; have HO203 := n3_; have BK174 := n4_; have HR186 := n5_; have HR193 := n6_; have HR200 := n7_; have BK204 := n8_; have HB := n9_; clear n0_ n1_ n2_ n3_ n4_ n5_ n6_ n7_ n8_ n9_; (try clear hb); (try clear hb2); (try clear hk); (try clear hi); (try clear ho0); obtain ⟨Ao35, co35, eo35⟩ := Kd.R_slice HO203.out; (first | subst eo35 | (injection eo35 with f1_ f2_ f3_; have f4_ := f1_.symm; have f5_ := f3_.symm; clear f1_ f2_ f3_; subst f4_; subst f5_)); obtain ⟨Ao36, co36, eo36⟩ := Kd.R_slice HO196.out; (first | subst eo36 | (injection eo36 with f1_ f2_ f3_; have f4_ := f1_.symm; have f5_ := f3_.symm; clear f1_ f2_ f3_; subst f4_; subst f5_)); obtain ⟨Ao37, co37, eo37⟩ := Kd.R_slice HO189.out; (first | subst eo37 | (injection eo37 with f1_ f2_ f3_; have f4_ := f1_.symm; have f5_ := f3_.symm; clear f1_ f2_ f3_; subst f4_; subst f5_)); refine hK.out _ _ trivial (fun hHeld => ?_); clear hK K
                  refine norm_ (a' := ?_) ?_ ?_
                  rotate_left
                  · show Act.put _ (some 37) _ = _
                    simp only [Act.put, s1_, s2_, s3_, i64_w, i32_w]; rfl
                  refine pure_ (i := 9) (N := some 38) (v := ?_) (a' := ?_) bs23_12 rfl rfl (any_of HT_.out (by kernel_rfl)) (fun _ _ _ h => h) (Or.inl ⟨by rfl, ?_⟩) ?_ ?_
                  rotate_left
                  · intro w'
                    go_simp; with_reducible rfl
                  rotate_left
                  · simp only [Act.put, s1_, s2_, s3_, i64_w, i32_w]
                    rfl
                  exact norm_ (by simp only [putAll, Act.put, s1_, s2_, s3_]) (hCont (.slice Ao37 t187.length co37, .slice Ao36 t194.length co36, .slice Ao35 t201.length co35, gb204) _ ⟨(Kd.R_mono HO189.out (fun _ hk => ⟨hk.1.2, ⟨hk.2, hk.1.1.2⟩⟩)), (Kd.R_mono HO196.out (fun _ hk => ⟨hk.1.2, ⟨hk.2, hk.1.1.2⟩⟩)), (Kd.R_mono HO203.out (fun _ hk => ⟨hk.1.2, ⟨hk.2, hk.1.1.2⟩⟩)), (Kd.R_mono HO_4.out (fun _ hk => ⟨hk.1.1.2, ⟨hk.1.2, hk.2⟩⟩)), BK174.out, BK204.out, GW204.out, GE204.out, NB174_204.out, NB204_174.out, HB.out⟩)
              rintro ⟨v188, v195, v202, gb204⟩ w38 ⟨h0_, h1_, h2_, h3_, h4_, h5_, h6_, h7_, h8_, h9_, h10_⟩
              have n0_ : Aside0 (Kd.R (Kd.int .i64) 3 w38 w.heap.size (fun k_ => some k_ ≠ (v195 : Value).ownBlock ∧ some k_ ≠ (v202 : Value).ownBlock ∧ some k_ ≠ (.slice Ao28 x4_1.length co28 : Value).ownBlock) v188 t187) := ⟨h0_⟩
              have n1_ : Aside0 (Kd.R (Kd.int .i64) 3 w38 w.heap.size (fun k_ => some k_ ≠ (v188 : Value).ownBlock ∧ some k_ ≠ (v202 : Value).ownBlock ∧ some k_ ≠ (.slice Ao28 x4_1.length co28 : Value).ownBlock) v195 t194) := ⟨h1_⟩
              have n2_ : Aside0 (Kd.R (Kd.int .i64) 3 w38 w.heap.size (fun k_ => some k_ ≠ (v188 : Value).ownBlock ∧ some k_ ≠ (v195 : Value).ownBlock ∧ some k_ ≠ (.slice Ao28 x4_1.length co28 : Value).ownBlock) v202 t201) := ⟨h2_⟩
              have n3_ : Aside0 (Kd.R (Kd.int .i64) 3 w38 w.heap.size (fun k_ => some k_ ≠ (v188 : Value).ownBlock ∧ some k_ ≠ (v195 : Value).ownBlock ∧ some k_ ≠ (v202 : Value).ownBlock) (.slice Ao28 x4_1.length co28) x4_1) := ⟨h3_⟩
              have n4_ : Aside0 (w38.heap[gb174]? = some (.cells #[.slice none 0 0, .slice none 0 0, .slice none 0 0] 27 (0, 0))) := ⟨h4_⟩
              have n5_ : Aside0 (w38.heap[gb204]? = some (.cells #[.slice none 0 0, .slice none 0 0, .slice none 0 0] 27 (0, 0))) := ⟨h5_⟩
              have n6_ : Aside0 (w.heap.size ≤ gb204) := ⟨h6_⟩
              have n7_ : Aside0 (w.heap.size ≤ gb204) := ⟨h7_⟩
              have n8_ : Aside0 (gb174 ≠ gb204) := ⟨h8_⟩
              have n9_ : Aside0 (gb204 ≠ gb174) := ⟨h9_⟩
              have n10_ : Aside0 (Below w.heap.size w w38) := ⟨h10_⟩
              clear HO_4
              clear BK174
              clear HB
              clear h0_ h1_ h2_ h3_ h4_ h5_ h6_ h7_ h8_ h9_ h10_
              have HO189 := n0_
              have HO196 := n1_
              have HO203 := n2_
              have HO_4 := n3_
              have BK174 := n4_
              have BK204 := n5_
              have GW204 := n6_
              have GE204 := n7_
              have NB174_204 := n8_
              have NB204_174 := n9_
              have HB := n10_
              clear n0_ n1_ n2_ n3_ n4_ n5_ n6_ n7_ n8_ n9_ n10_
              have hHeld := trivial
              obtain ⟨Ao39, co39, eo39⟩ := Kd.R_slice HO203.out
              (first | subst eo39 | (injection eo39 with f1_ f2_ f3_; have f4_ := f1_.symm; have f5_ := f3_.symm; clear f1_ f2_ f3_; subst f4_; subst f5_))
              obtain ⟨Ao40, co40, eo40⟩ := Kd.R_slice HO196.out
              (first | subst eo40 | (injection eo40 with f1_ f2_ f3_; have f4_ := f1_.symm; have f5_ := f3_.symm; clear f1_ f2_ f3_; subst f4_; subst f5_))
              obtain ⟨Ao41, co41, eo41⟩ := Kd.R_slice HO189.out
              (first | subst eo41 | (injection eo41 with f1_ f2_ f3_; have f4_ := f1_.symm; have f5_ := f3_.symm; clear f1_ f2_ f3_; subst f4_; subst f5_))
              refine norm_ (a' := ?_) ?_ ?_; rotate_left; (simp only [putAll, Act.put, s1_, s2_, s3_]; rfl)
              refine one_ (i := 11) (N := none) bs23_21 rfl rfl (one_of HT_.out (by kernel_rfl)) (by decide) (fun K hK => ?_)
              have hs42 : w38.cell? ⟨gb204, 0, none⟩ = some (.slice none 0 0) := (blk_cell BK204.out 0).trans rfl
              have hfs42 := blk_frozen BK204.out 0
              have hns42_0 := NB174_204.out
              have hms42_0 := NB204_174.out
              have hs43 : w38.cell? ⟨gb204, 1, none⟩ = some (.slice none 0 0) := (blk_cell BK204.out 1).trans rfl
              have hfs43 := blk_frozen BK204.out 1
              have hns43_0 := NB174_204.out
              have hms43_0 := NB204_174.out
              have hs44 : w38.cell? ⟨gb204, 2, none⟩ = some (.slice none 0 0) := (blk_cell BK204.out 2).trans rfl
              have hfs44 := blk_frozen BK204.out 2
              have hns44_0 := NB174_204.out
              have hms44_0 := NB204_174.out
              refine skip_ (w1 := ?_) (by rfl) rfl ?_ ?_
              rotate_left
              · go_simp
                rfl
              refine hK.out _ _ trivial (fun hHeld => ?_)
              clear hK K
              refine done_ (done_of HT_.out (by kernel_rfl)) ?_
              have H := HCw.out
              by_cases c23 : x5_1.toList = ([] : List UInt8)
              · rw [if_pos c23] at H
                have c23b0 : (x5_1.toList == ([] : List UInt8)) = true := beq_iff_eq.mpr c23
                have c23b1 : (x5_1.toList != ([] : List UInt8)) = false := bne_eq_false_iff_eq.mpr c23
                clear c23
                replace H := Option.bind_eq_some_iff.mp H
                obtain ⟨t205, A240, H⟩ := H
                replace H : (if t205 = true then (some (t187, t194, t201, true)) else (some (([] : List Int), ([] : List Int), ([] : List Int), false))) = some (r1, r2, r3, r4) := H
                have A24 := Aside0.mk A240
                clear A240
                by_cases c25 : t205 = true
                · subst c25
                  have H1 : (some (t187, t194, t201, true)) = some (r1, r2, r3, r4) := by rw [if_pos rfl] at H; exact H
                  clear H
                  have H := H1
                  clear H1
                  simp only [Option.some.injEq, Prod.mk.injEq] at H
                  obtain ⟨rfl, rfl, rfl, rfl⟩ := H
                  have hnb45 := NB204_174.out
                  have hnc45 := NB174_204.out
                  have hcz46_0 : w38.cell? ⟨gb204, 0, none⟩ = some (.slice none 0 0) := (blk_cell BK204.out 0).trans rfl
                  have hcz46_1 : w38.cell? ⟨gb204, 1, none⟩ = some (.slice none 0 0) := (blk_cell BK204.out 1).trans rfl
                  have hcz46_2 : w38.cell? ⟨gb204, 2, none⟩ = some (.slice none 0 0) := (blk_cell BK204.out 2).trans rfl
                  have hfz46_0 := blk_frozen BK204.out 0
                  have hfz46_1 := blk_frozen BK204.out 1
                  have hfz46_2 := blk_frozen BK204.out 2
                  try go_wp2_with (first | (go_at_call 60; (with_reducible refine (impl_CostOk.calls k1 _ _ t187 _ _ t194 _ _ t201 true _ ?side1 ?side2 ?side3 ?side4 ?side5 ?side6 A24.out).mono ?_); (case side1 => refine (Kd.R_reads' (e := 3) (base := w.heap.size) (ok := fun k_ => (some k_ ≠ (.slice Ao40 t194.length co40 : Value).ownBlock ∧ (some k_ ≠ (.slice Ao39 t201.length co39 : Value).ownBlock ∧ some k_ ≠ (.slice Ao28 x4_1.length co28 : Value).ownBlock))) (n := t187.length) (c := co41) ?_).2.2; exact (by (with_reducible repeat (first | apply Kd.R_alloc | apply Kd.R_drewN | apply Kd.R_drew)); exact (Kd.R_mono (Kd.R_far (p := ⟨gb204, 2, none⟩) (Kd.R_far (p := ⟨gb204, 1, none⟩) (Kd.R_far (p := ⟨gb204, 0, none⟩) (Kd.R_types HO189.out BK204.out (by decide)) (fun _ hk => hk.2) (.slice Ao41 t187.length co41)) (fun _ hk => hk.2) (.slice Ao40 t194.length co40)) (fun _ hk => hk.2) (.slice Ao39 t201.length co39)) (fun _ h_ => h_.1)))); (case side2 => exact (Kd.R_reads' HO189.out).2.1); (case side3 => refine (Kd.R_reads' (e := 3) (base := w.heap.size) (ok := fun k_ => (some k_ ≠ (.slice Ao41 t187.length co41 : Value).ownBlock ∧ (some k_ ≠ (.slice Ao39 t201.length co39 : Value).ownBlock ∧ some k_ ≠ (.slice Ao28 x4_1.length co28 : Value).ownBlock))) (n := t194.length) (c := co40) ?_).2.2; exact (by (with_reducible repeat (first | apply Kd.R_alloc | apply Kd.R_drewN | apply Kd.R_drew)); exact (Kd.R_mono (Kd.R_far (p := ⟨gb204, 2, none⟩) (Kd.R_far (p := ⟨gb204, 1, none⟩) (Kd.R_far (p := ⟨gb204, 0, none⟩) (Kd.R_types HO196.out BK204.out (by decide)) (fun _ hk => hk.2) (.slice Ao41 t187.length co41)) (fun _ hk => hk.2) (.slice Ao40 t194.length co40)) (fun _ hk => hk.2) (.slice Ao39 t201.length co39)) (fun _ h_ => h_.1)))); (case side4 => exact (Kd.R_reads' HO196.out).2.1); (case side5 => refine (Kd.R_reads' (e := 3) (base := w.heap.size) (ok := fun k_ => (some k_ ≠ (.slice Ao41 t187.length co41 : Value).ownBlock ∧ (some k_ ≠ (.slice Ao40 t194.length co40 : Value).ownBlock ∧ some k_ ≠ (.slice Ao28 x4_1.length co28 : Value).ownBlock))) (n := t201.length) (c := co39) ?_).2.2; exact (by (with_reducible repeat (first | apply Kd.R_alloc | apply Kd.R_drewN | apply Kd.R_drew)); exact (Kd.R_mono (Kd.R_far (p := ⟨gb204, 2, none⟩) (Kd.R_far (p := ⟨gb204, 1, none⟩) (Kd.R_far (p := ⟨gb204, 0, none⟩) (Kd.R_types HO203.out BK204.out (by decide)) (fun _ hk => hk.2) (.slice Ao41 t187.length co41)) (fun _ hk => hk.2) (.slice Ao40 t194.length co40)) (fun _ hk => hk.2) (.slice Ao39 t201.length co39)) (fun _ h_ => h_.1)))); (case side6 => exact (Kd.R_reads' HO203.out).2.1); rintro e w47 ⟨rfl, hb⟩; have n0_ := Aside0.mk (Kd.R_below (by (with_reducible repeat (first | apply Kd.R_alloc | apply Kd.R_drewN | apply Kd.R_drew)); exact (Kd.R_mono (Kd.R_far (p := ⟨gb204, 2, none⟩) (Kd.R_far (p := ⟨gb204, 1, none⟩) (Kd.R_far (p := ⟨gb204, 0, none⟩) (Kd.R_types HO_4.out BK204.out (by decide)) (fun _ hk => hk.2) (.slice Ao41 t187.length co41)) (fun _ hk => hk.2) (.slice Ao40 t194.length co40)) (fun _ hk => hk.2) (.slice Ao39 t201.length co39)) (fun _ h_ => h_.1))) hb); have n1_ := Aside0.mk (Kd.R_below (by (with_reducible repeat (first | apply Kd.R_alloc | apply Kd.R_drewN | apply Kd.R_drew)); exact (Kd.R_mono (Kd.R_far (p := ⟨gb204, 2, none⟩) (Kd.R_far (p := ⟨gb204, 1, none⟩) (Kd.R_far (p := ⟨gb204, 0, none⟩) (Kd.R_types HO189.out BK204.out (by decide)) (fun _ hk => hk.2) (.slice Ao41 t187.length co41)) (fun _ hk => hk.2) (.slice Ao40 t194.length co40)) (fun _ hk => hk.2) (.slice Ao39 t201.length co39)) (fun _ h_ => h_.1))) hb); have n2_ := Aside0.mk (Kd.R_below (by (with_reducible repeat (first | apply Kd.R_alloc | apply Kd.R_drewN | apply Kd.R_drew)); exact (Kd.R_mono (Kd.R_far (p := ⟨gb204, 2, none⟩) (Kd.R_far (p := ⟨gb204, 1, none⟩) (Kd.R_far (p := ⟨gb204, 0, none⟩) (Kd.R_types HO196.out BK204.out (by decide)) (fun _ hk => hk.2) (.slice Ao41 t187.length co41)) (fun _ hk => hk.2) (.slice Ao40 t194.length co40)) (fun _ hk => hk.2) (.slice Ao39 t201.length co39)) (fun _ h_ => h_.1))) hb); have n3_ := Aside0.mk (Kd.R_below (by (with_reducible repeat (first | apply Kd.R_alloc | apply Kd.R_drewN | apply Kd.R_drew)); exact (Kd.R_mono (Kd.R_far (p := ⟨gb204, 2, none⟩) (Kd.R_far (p := ⟨gb204, 1, none⟩) (Kd.R_far (p := ⟨gb204, 0, none⟩) (Kd.R_types HO203.out BK204.out (by decide)) (fun _ hk => hk.2) (.slice Ao41 t187.length co41)) (fun _ hk => hk.2) (.slice Ao40 t194.length co40)) (fun _ hk => hk.2) (.slice Ao39 t201.length co39)) (fun _ h_ => h_.1))) hb); have n4_ := Aside0.mk (blk_below (g := gb174) (o := .cells #[.slice none 0 0, .slice none 0 0, .slice none 0 0] 27 (0, 0)) (by (with_reducible repeat (first | refine blk_drewN ?_ _ | refine blk_drew ?_ | refine blk_alloc ?_ _)); refine blk_far ?_ NB174_204.out _; (with_reducible repeat (first | refine blk_drewN ?_ _ | refine blk_drew ?_ | refine blk_alloc ?_ _)); refine blk_far ?_ NB174_204.out _; (with_reducible repeat (first | refine blk_drewN ?_ _ | refine blk_drew ?_ | refine blk_alloc ?_ _)); refine blk_far ?_ NB174_204.out _; (with_reducible repeat (first | refine blk_drewN ?_ _ | refine blk_drew ?_ | refine blk_alloc ?_ _)); exact BK174.out) hb); have n5_ := Aside0.mk (blk_below (g := gb204) (o := .cells #[.slice Ao41 t187.length co41, .slice Ao40 t194.length co40, .slice Ao39 t201.length co39] 27 (0, 0)) (by (with_reducible repeat (first | refine blk_drewN ?_ _ | refine blk_drew ?_ | refine blk_alloc ?_ _)); refine blk_put (cs := #[.slice Ao41 t187.length co41, .slice Ao40 t194.length co40, .slice none 0 0]) ?_ 2 _ rfl; (with_reducible repeat (first | refine blk_drewN ?_ _ | refine blk_drew ?_ | refine blk_alloc ?_ _)); refine blk_put (cs := #[.slice Ao41 t187.length co41, .slice none 0 0, .slice none 0 0]) ?_ 1 _ rfl; (with_reducible repeat (first | refine blk_drewN ?_ _ | refine blk_drew ?_ | refine blk_alloc ?_ _)); refine blk_put (cs := #[.slice none 0 0, .slice none 0 0, .slice none 0 0]) ?_ 0 _ rfl; (with_reducible repeat (first | refine blk_drewN ?_ _ | refine blk_drew ?_ | refine blk_alloc ?_ _)); exact BK204.out) hb); have n6_ := Aside0.mk (below_step (by repeat (first | (with_reducible first | exact HB.out | apply below_alloc | apply pw_below_drewN | apply below_drew1 | refine below_set ?_ GE174.out | refine below_set ?_ GE204.out) | exact HB.out)) hb); clear HO_4; clear HO189; clear HO196; clear HO203; clear BK174; clear BK204; clear HB; have HO_4 := n0_; have HO189 := n1_; have HO196 := n2_; have HO203 := n3_; have BK174 := n4_; have BK204 := n5_; have HB := n6_; clear n0_ n1_ n2_ n3_ n4_ n5_ n6_; (try clear hb); (try clear hb2); (try clear hk); (try clear hi); have hcz48_0 : w47.cell? ⟨gb204, 0, none⟩ = some (.slice Ao41 t187.length co41) := (blk_cell BK204.out 0).trans rfl; have hcz48_1 : w47.cell? ⟨gb204, 1, none⟩ = some (.slice Ao40 t194.length co40) := (blk_cell BK204.out 1).trans rfl; have hcz48_2 : w47.cell? ⟨gb204, 2, none⟩ = some (.slice Ao39 t201.length co39) := (blk_cell BK204.out 2).trans rfl; have hfz48_0 := blk_frozen BK204.out 0; have hfz48_1 := blk_frozen BK204.out 1; have hfz48_2 := blk_frozen BK204.out 2; have hcz49_0 : w47.cell? ⟨gb174, 0, none⟩ = some (.slice none 0 0) := (blk_cell BK174.out 0).trans rfl; have hcz49_1 : w47.cell? ⟨gb174, 1, none⟩ = some (.slice none 0 0) := (blk_cell BK174.out 1).trans rfl; have hcz49_2 : w47.cell? ⟨gb174, 2, none⟩ = some (.slice none 0 0) := (blk_cell BK174.out 2).trans rfl; have hfz49_0 := blk_frozen BK174.out 0; have hfz49_1 := blk_frozen BK174.out 1; have hfz49_2 := blk_frozen BK174.out 2))
                  refine bodyPost_ret (results_ct rfl _ _ gb174 27 #[.slice Ao41 t187.length co41, .slice Ao40 t194.length co40, .slice Ao39 t201.length co39] (0, 0) _ rfl (by (with_reducible repeat (first | refine blk_drewN ?_ _ | refine blk_drew ?_ | refine blk_alloc ?_ _)); refine blk_put (cs := #[.slice Ao41 t187.length co41, .slice Ao40 t194.length co40, .slice none 0 0]) ?_ 2 _ rfl; (with_reducible repeat (first | refine blk_drewN ?_ _ | refine blk_drew ?_ | refine blk_alloc ?_ _)); refine blk_put (cs := #[.slice Ao41 t187.length co41, .slice none 0 0, .slice none 0 0]) ?_ 1 _ rfl; (with_reducible repeat (first | refine blk_drewN ?_ _ | refine blk_drew ?_ | refine blk_alloc ?_ _)); refine blk_put (cs := #[.slice none 0 0, .slice none 0 0, .slice none 0 0]) ?_ 0 _ rfl; (with_reducible repeat (first | refine blk_drewN ?_ _ | refine blk_drew ?_ | refine blk_alloc ?_ _)); exact BK174.out) Try.underlying27 rfl (by kernel_rfl)) rfl ?_
                  exact ⟨_, _, _, by first | rfl | (simp [errW_none, errW_some] <;> rfl) | (simp [*, errW_none, errW_some] <;> rfl), by (with_reducible repeat (first | apply Kd.R_alloc | apply Kd.R_drewN | apply Kd.R_drew)); exact Kd.R_mono (Kd.R_far (p := ⟨gb174, 2, none⟩) (Kd.R_far (p := ⟨gb174, 1, none⟩) (Kd.R_far (p := ⟨gb174, 0, none⟩) (Kd.R_types HO189.out BK174.out (by decide)) (fun _ hk => hk.2) (.slice Ao41 t187.length co41)) (fun _ hk => hk.2) (.slice Ao40 t194.length co40)) (fun _ hk => hk.2) (.slice Ao39 t201.length co39)) (fun _ hk => ⟨hk.1.1, hk.1.2.1⟩), by (with_reducible repeat (first | apply Kd.R_alloc | apply Kd.R_drewN | apply Kd.R_drew)); exact Kd.R_mono (Kd.R_far (p := ⟨gb174, 2, none⟩) (Kd.R_far (p := ⟨gb174, 1, none⟩) (Kd.R_far (p := ⟨gb174, 0, none⟩) (Kd.R_types HO196.out BK174.out (by decide)) (fun _ hk => hk.2) (.slice Ao41 t187.length co41)) (fun _ hk => hk.2) (.slice Ao40 t194.length co40)) (fun _ hk => hk.2) (.slice Ao39 t201.length co39)) (fun _ hk => ⟨hk.1.1, hk.1.2.1⟩), by (with_reducible repeat (first | apply Kd.R_alloc | apply Kd.R_drewN | apply Kd.R_drew)); exact Kd.R_mono (Kd.R_far (p := ⟨gb174, 2, none⟩) (Kd.R_far (p := ⟨gb174, 1, none⟩) (Kd.R_far (p := ⟨gb174, 0, none⟩) (Kd.R_types HO203.out BK174.out (by decide)) (fun _ hk => hk.2) (.slice Ao41 t187.length co41)) (fun _ hk => hk.2) (.slice Ao40 t194.length co40)) (fun _ hk => hk.2) (.slice Ao39 t201.length co39)) (fun _ hk => ⟨hk.1.1, hk.1.2.1⟩), by repeat (first | (with_reducible first | exact HB.out | apply below_alloc | apply pw_below_drewN | apply below_drew1 | refine below_set ?_ GE174.out | refine below_set ?_ GE204.out) | exact HB.out)⟩
                · replace c25 := Bool.eq_false_iff.mpr c25
                  subst c25
                  have H1 : (some (([] : List Int), ([] : List Int), ([] : List Int), false)) = some (r1, r2, r3, r4) := by rw [if_neg (show ¬ (false = true) by decide)] at H; exact H
                  clear H
                  have H := H1
                  clear H1
                  simp only [Option.some.injEq, Prod.mk.injEq] at H
                  obtain ⟨rfl, rfl, rfl, rfl⟩ := H
                  have hnb45 := NB204_174.out
                  have hnc45 := NB174_204.out
                  have hcz46_0 : w38.cell? ⟨gb204, 0, none⟩ = some (.slice none 0 0) := (blk_cell BK204.out 0).trans rfl
                  have hcz46_1 : w38.cell? ⟨gb204, 1, none⟩ = some (.slice none 0 0) := (blk_cell BK204.out 1).trans rfl
                  have hcz46_2 : w38.cell? ⟨gb204, 2, none⟩ = some (.slice none 0 0) := (blk_cell BK204.out 2).trans rfl
                  have hfz46_0 := blk_frozen BK204.out 0
                  have hfz46_1 := blk_frozen BK204.out 1
                  have hfz46_2 := blk_frozen BK204.out 2
                  try go_wp2_with (first | (go_at_call 60; (with_reducible refine (impl_CostOk.calls k1 _ _ t187 _ _ t194 _ _ t201 false _ ?side1 ?side2 ?side3 ?side4 ?side5 ?side6 A24.out).mono ?_); (case side1 => refine (Kd.R_reads' (e := 3) (base := w.heap.size) (ok := fun k_ => (some k_ ≠ (.slice Ao40 t194.length co40 : Value).ownBlock ∧ (some k_ ≠ (.slice Ao39 t201.length co39 : Value).ownBlock ∧ some k_ ≠ (.slice Ao28 x4_1.length co28 : Value).ownBlock))) (n := t187.length) (c := co41) ?_).2.2; exact (by (with_reducible repeat (first | apply Kd.R_alloc | apply Kd.R_drewN | apply Kd.R_drew)); exact (Kd.R_mono (Kd.R_far (p := ⟨gb204, 2, none⟩) (Kd.R_far (p := ⟨gb204, 1, none⟩) (Kd.R_far (p := ⟨gb204, 0, none⟩) (Kd.R_types HO189.out BK204.out (by decide)) (fun _ hk => hk.2) (.slice Ao41 t187.length co41)) (fun _ hk => hk.2) (.slice Ao40 t194.length co40)) (fun _ hk => hk.2) (.slice Ao39 t201.length co39)) (fun _ h_ => h_.1)))); (case side2 => exact (Kd.R_reads' HO189.out).2.1); (case side3 => refine (Kd.R_reads' (e := 3) (base := w.heap.size) (ok := fun k_ => (some k_ ≠ (.slice Ao41 t187.length co41 : Value).ownBlock ∧ (some k_ ≠ (.slice Ao39 t201.length co39 : Value).ownBlock ∧ some k_ ≠ (.slice Ao28 x4_1.length co28 : Value).ownBlock))) (n := t194.length) (c := co40) ?_).2.2; exact (by (with_reducible repeat (first | apply Kd.R_alloc | apply Kd.R_drewN | apply Kd.R_drew)); exact (Kd.R_mono (Kd.R_far (p := ⟨gb204, 2, none⟩) (Kd.R_far (p := ⟨gb204, 1, none⟩) (Kd.R_far (p := ⟨gb204, 0, none⟩) (Kd.R_types HO196.out BK204.out (by decide)) (fun _ hk => hk.2) (.slice Ao41 t187.length co41)) (fun _ hk => hk.2) (.slice Ao40 t194.length co40)) (fun _ hk => hk.2) (.slice Ao39 t201.length co39)) (fun _ h_ => h_.1)))); (case side4 => exact (Kd.R_reads' HO196.out).2.1); (case side5 => refine (Kd.R_reads' (e := 3) (base := w.heap.size) (ok := fun k_ => (some k_ ≠ (.slice Ao41 t187.length co41 : Value).ownBlock ∧ (some k_ ≠ (.slice Ao40 t194.length co40 : Value).ownBlock ∧ some k_ ≠ (.slice Ao28 x4_1.length co28 : Value).ownBlock))) (n := t201.length) (c := co39) ?_).2.2; exact (by (with_reducible repeat (first | apply Kd.R_alloc | apply Kd.R_drewN | apply Kd.R_drew)); exact (Kd.R_mono (Kd.R_far (p := ⟨gb204, 2, none⟩) (Kd.R_far (p := ⟨gb204, 1, none⟩) (Kd.R_far (p := ⟨gb204, 0, none⟩) (Kd.R_types HO203.out BK204.out (by decide)) (fun _ hk => hk.2) (.slice Ao41 t187.length co41)) (fun _ hk => hk.2) (.slice Ao40 t194.length co40)) (fun _ hk => hk.2) (.slice Ao39 t201.length co39)) (fun _ h_ => h_.1)))); (case side6 => exact (Kd.R_reads' HO203.out).2.1); rintro e w47 ⟨rfl, hb⟩; have n0_ := Aside0.mk (Kd.R_below (by (with_reducible repeat (first | apply Kd.R_alloc | apply Kd.R_drewN | apply Kd.R_drew)); exact (Kd.R_mono (Kd.R_far (p := ⟨gb204, 2, none⟩) (Kd.R_far (p := ⟨gb204, 1, none⟩) (Kd.R_far (p := ⟨gb204, 0, none⟩) (Kd.R_types HO_4.out BK204.out (by decide)) (fun _ hk => hk.2) (.slice Ao41 t187.length co41)) (fun _ hk => hk.2) (.slice Ao40 t194.length co40)) (fun _ hk => hk.2) (.slice Ao39 t201.length co39)) (fun _ h_ => h_.1))) hb); have n1_ := Aside0.mk (Kd.R_below (by (with_reducible repeat (first | apply Kd.R_alloc | apply Kd.R_drewN | apply Kd.R_drew)); exact (Kd.R_mono (Kd.R_far (p := ⟨gb204, 2, none⟩) (Kd.R_far (p := ⟨gb204, 1, none⟩) (Kd.R_far (p := ⟨gb204, 0, none⟩) (Kd.R_types HO189.out BK204.out (by decide)) (fun _ hk => hk.2) (.slice Ao41 t187.length co41)) (fun _ hk => hk.2) (.slice Ao40 t194.length co40)) (fun _ hk => hk.2) (.slice Ao39 t201.length co39)) (fun _ h_ => h_.1))) hb); have n2_ := Aside0.mk (Kd.R_below (by (with_reducible repeat (first | apply Kd.R_alloc | apply Kd.R_drewN | apply Kd.R_drew)); exact (Kd.R_mono (Kd.R_far (p := ⟨gb204, 2, none⟩) (Kd.R_far (p := ⟨gb204, 1, none⟩) (Kd.R_far (p := ⟨gb204, 0, none⟩) (Kd.R_types HO196.out BK204.out (by decide)) (fun _ hk => hk.2) (.slice Ao41 t187.length co41)) (fun _ hk => hk.2) (.slice Ao40 t194.length co40)) (fun _ hk => hk.2) (.slice Ao39 t201.length co39)) (fun _ h_ => h_.1))) hb); have n3_ := Aside0.mk (Kd.R_below (by (with_reducible repeat (first | apply Kd.R_alloc | apply Kd.R_drewN | apply Kd.R_drew)); exact (Kd.R_mono (Kd.R_far (p := ⟨gb204, 2, none⟩) (Kd.R_far (p := ⟨gb204, 1, none⟩) (Kd.R_far (p := ⟨gb204, 0, none⟩) (Kd.R_types HO203.out BK204.out (by decide)) (fun _ hk => hk.2) (.slice Ao41 t187.length co41)) (fun _ hk => hk.2) (.slice Ao40 t194.length co40)) (fun _ hk => hk.2) (.slice Ao39 t201.length co39)) (fun _ h_ => h_.1))) hb); have n4_ := Aside0.mk (blk_below (g := gb174) (o := .cells #[.slice none 0 0, .slice none 0 0, .slice none 0 0] 27 (0, 0)) (by (with_reducible repeat (first | refine blk_drewN ?_ _ | refine blk_drew ?_ | refine blk_alloc ?_ _)); refine blk_far ?_ NB174_204.out _; (with_reducible repeat (first | refine blk_drewN ?_ _ | refine blk_drew ?_ | refine blk_alloc ?_ _)); refine blk_far ?_ NB174_204.out _; (with_reducible repeat (first | refine blk_drewN ?_ _ | refine blk_drew ?_ | refine blk_alloc ?_ _)); refine blk_far ?_ NB174_204.out _; (with_reducible repeat (first | refine blk_drewN ?_ _ | refine blk_drew ?_ | refine blk_alloc ?_ _)); exact BK174.out) hb); have n5_ := Aside0.mk (blk_below (g := gb204) (o := .cells #[.slice Ao41 t187.length co41, .slice Ao40 t194.length co40, .slice Ao39 t201.length co39] 27 (0, 0)) (by (with_reducible repeat (first | refine blk_drewN ?_ _ | refine blk_drew ?_ | refine blk_alloc ?_ _)); refine blk_put (cs := #[.slice Ao41 t187.length co41, .slice Ao40 t194.length co40, .slice none 0 0]) ?_ 2 _ rfl; (with_reducible repeat (first | refine blk_drewN ?_ _ | refine blk_drew ?_ | refine blk_alloc ?_ _)); refine blk_put (cs := #[.slice Ao41 t187.length co41, .slice none 0 0, .slice none 0 0]) ?_ 1 _ rfl; (with_reducible repeat (first | refine blk_drewN ?_ _ | refine blk_drew ?_ | refine blk_alloc ?_ _)); refine blk_put (cs := #[.slice none 0 0, .slice none 0 0, .slice none 0 0]) ?_ 0 _ rfl; (with_reducible repeat (first | refine blk_drewN ?_ _ | refine blk_drew ?_ | refine blk_alloc ?_ _)); exact BK204.out) hb); have n6_ := Aside0.mk (below_step (by repeat (first | (with_reducible first | exact HB.out | apply below_alloc | apply pw_below_drewN | apply below_drew1 | refine below_set ?_ GE174.out | refine below_set ?_ GE204.out) | exact HB.out)) hb); clear HO_4; clear HO189; clear HO196; clear HO203; clear BK174; clear BK204; clear HB; have HO_4 := n0_; have HO189 := n1_; have HO196 := n2_; have HO203 := n3_; have BK174 := n4_; have BK204 := n5_; have HB := n6_; clear n0_ n1_ n2_ n3_ n4_ n5_ n6_; (try clear hb); (try clear hb2); (try clear hk); (try clear hi); have hcz48_0 : w47.cell? ⟨gb174, 0, none⟩ = some (.slice none 0 0) := (blk_cell BK174.out 0).trans rfl; have hcz48_1 : w47.cell? ⟨gb174, 1, none⟩ = some (.slice none 0 0) := (blk_cell BK174.out 1).trans rfl; have hcz48_2 : w47.cell? ⟨gb174, 2, none⟩ = some (.slice none 0 0) := (blk_cell BK174.out 2).trans rfl; have hfz48_0 := blk_frozen BK174.out 0; have hfz48_1 := blk_frozen BK174.out 1; have hfz48_2 := blk_frozen BK174.out 2))
                  refine bodyPost_ret (results_ct rfl _ _ gb174 27 #[.slice none 0 0, .slice none 0 0, .slice none 0 0] (0, 0) _ rfl (by (with_reducible repeat (first | refine blk_drewN ?_ _ | refine blk_drew ?_ | refine blk_alloc ?_ _)); refine blk_put (cs := #[.slice none 0 0, .slice none 0 0, .slice none 0 0]) ?_ 2 _ rfl; (with_reducible repeat (first | refine blk_drewN ?_ _ | refine blk_drew ?_ | refine blk_alloc ?_ _)); refine blk_put (cs := #[.slice none 0 0, .slice none 0 0, .slice none 0 0]) ?_ 1 _ rfl; (with_reducible repeat (first | refine blk_drewN ?_ _ | refine blk_drew ?_ | refine blk_alloc ?_ _)); refine blk_put (cs := #[.slice none 0 0, .slice none 0 0, .slice none 0 0]) ?_ 0 _ rfl; (with_reducible repeat (first | refine blk_drewN ?_ _ | refine blk_drew ?_ | refine blk_alloc ?_ _)); exact BK174.out) Try.underlying27 rfl (by kernel_rfl)) rfl ?_
                  exact ⟨_, _, _, by first | rfl | (simp [errW_none, errW_some] <;> rfl) | (simp [*, errW_none, errW_some] <;> rfl), by first | exact Kd.R_nil _ _ _ _ _ | exact Kd.N_nil _ _ _ _ _ | exact Kd.V_nil _ _ _ _ _ | exact Kd.Q_nil _ _ _ _ _ | exact Kd.S_nil _ _ _ _ _, by first | exact Kd.R_nil _ _ _ _ _ | exact Kd.N_nil _ _ _ _ _ | exact Kd.V_nil _ _ _ _ _ | exact Kd.Q_nil _ _ _ _ _ | exact Kd.S_nil _ _ _ _ _, by first | exact Kd.R_nil _ _ _ _ _ | exact Kd.N_nil _ _ _ _ _ | exact Kd.V_nil _ _ _ _ _ | exact Kd.Q_nil _ _ _ _ _ | exact Kd.S_nil _ _ _ _ _, by repeat (first | (with_reducible first | exact HB.out | apply below_alloc | apply pw_below_drewN | apply below_drew1 | refine below_set ?_ GE174.out | refine below_set ?_ GE204.out) | exact HB.out)⟩
              · rw [if_neg c23] at H
                have c23b0 : (x5_1.toList == ([] : List UInt8)) = false := beq_eq_false_iff_ne.mpr c23
                have c23b1 : (x5_1.toList != ([] : List UInt8)) = true := bne_iff_ne.mpr c23
                simp only [Option.some.injEq, Prod.mk.injEq] at H
                obtain ⟨rfl, rfl, rfl, rfl⟩ := H
                have hnb45 := NB174_204.out
                have hnc45 := NB204_174.out
                have hcz46_0 : w38.cell? ⟨gb174, 0, none⟩ = some (.slice none 0 0) := (blk_cell BK174.out 0).trans rfl
                have hcz46_1 : w38.cell? ⟨gb174, 1, none⟩ = some (.slice none 0 0) := (blk_cell BK174.out 1).trans rfl
                have hcz46_2 : w38.cell? ⟨gb174, 2, none⟩ = some (.slice none 0 0) := (blk_cell BK174.out 2).trans rfl
                have hfz46_0 := blk_frozen BK174.out 0
                have hfz46_1 := blk_frozen BK174.out 1
                have hfz46_2 := blk_frozen BK174.out 2
                try go_wp2
                refine bodyPost_ret (results_ct rfl _ _ gb174 27 #[.slice none 0 0, .slice none 0 0, .slice none 0 0] (0, 0) _ rfl (by (with_reducible repeat (first | refine blk_drewN ?_ _ | refine blk_drew ?_ | refine blk_alloc ?_ _)); refine blk_put (cs := #[.slice none 0 0, .slice none 0 0, .slice none 0 0]) ?_ 2 _ rfl; (with_reducible repeat (first | refine blk_drewN ?_ _ | refine blk_drew ?_ | refine blk_alloc ?_ _)); refine blk_put (cs := #[.slice none 0 0, .slice none 0 0, .slice none 0 0]) ?_ 1 _ rfl; (with_reducible repeat (first | refine blk_drewN ?_ _ | refine blk_drew ?_ | refine blk_alloc ?_ _)); refine blk_put (cs := #[.slice none 0 0, .slice none 0 0, .slice none 0 0]) ?_ 0 _ rfl; (with_reducible repeat (first | refine blk_drewN ?_ _ | refine blk_drew ?_ | refine blk_alloc ?_ _)); refine blk_far ?_ NB174_204.out _; (with_reducible repeat (first | refine blk_drewN ?_ _ | refine blk_drew ?_ | refine blk_alloc ?_ _)); refine blk_far ?_ NB174_204.out _; (with_reducible repeat (first | refine blk_drewN ?_ _ | refine blk_drew ?_ | refine blk_alloc ?_ _)); refine blk_far ?_ NB174_204.out _; (with_reducible repeat (first | refine blk_drewN ?_ _ | refine blk_drew ?_ | refine blk_alloc ?_ _)); exact BK174.out) Try.underlying27 rfl (by kernel_rfl)) rfl ?_
                exact ⟨_, _, _, by first | rfl | (simp [errW_none, errW_some] <;> rfl) | (simp [*, errW_none, errW_some] <;> rfl), by first | exact Kd.R_nil _ _ _ _ _ | exact Kd.N_nil _ _ _ _ _ | exact Kd.V_nil _ _ _ _ _ | exact Kd.Q_nil _ _ _ _ _ | exact Kd.S_nil _ _ _ _ _, by first | exact Kd.R_nil _ _ _ _ _ | exact Kd.N_nil _ _ _ _ _ | exact Kd.V_nil _ _ _ _ _ | exact Kd.Q_nil _ _ _ _ _ | exact Kd.S_nil _ _ _ _ _, by first | exact Kd.R_nil _ _ _ _ _ | exact Kd.N_nil _ _ _ _ _ | exact Kd.V_nil _ _ _ _ _ | exact Kd.Q_nil _ _ _ _ _ | exact Kd.S_nil _ _ _ _ _, by repeat (first | (with_reducible first | exact HB.out | apply below_alloc | apply pw_below_drewN | apply below_drew1 | refine below_set ?_ GE174.out | refine below_set ?_ GE204.out) | exact HB.out)⟩
            · rw [if_neg c19] at H
              exact absurd H (by simp)
          · rw [if_neg c18] at H
            exact absurd H (by simp)
        · rw [if_neg c16] at H
          exact absurd H (by simp)

end Go.Proofs.Ytbdjconojnjgdaa.HFnExactGetCost
