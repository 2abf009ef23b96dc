/- Functions of the program and what each call of them comes to, for the law FnBytes; written by a program of this session. No condition beyond those of each theorem. -/
import Derived.Test.YtpkokfffjgdjoaaHFnBytesx0
import Derived.Test.YtpkokfffjgdjoaaHFnBytesx3
namespace Go.Proofs.Ytpkokfffjgdjoaa.HFnBytes
open Go.RowKit Go.Proofs.YtpkokfffjgdjoaaW.PrintWords Go.Proofs.YtpkokfffjgdjoaaW.PrintLast Go.Proofs.YtpkokfffjgdjoaaW.PrintMore
attribute [local go_sem] max2_int min2_int max_two min_two max_three min_three max_four min_four   -- for this text's walks alone
set_option linter.unusedVariables false
set_option linter.unusedSimpArgs false

/-! ### impl_pricesOk: function 52 -/
def priceB (x : Int) : Bool := decide (0 ≤ x ∧ x ≤ 1000)
def badGo : List Int → Nat → Int
 | [], _ => -1
 | x :: l, j => if priceB x = true then badGo l (j + 1) else (j : Int)
theorem badGo_all : ∀ (l : List Int) (j : Nat), (badGo l j ≥ 0 ↔ ¬ ∀ x ∈ l, priceB x = true)
 | [], j => by simp [badGo]
 | x :: l, j => by
  simp only [badGo]
  by_cases h : priceB x = true
  ·rw [if_pos h, badGo_all l (j + 1)]
   simp [h]
  ·rw [if_neg h]
   constructor
   ·intro _ hall; exact h (hall x (by simp))
   ·intro _; omega
theorem clo_calls (x : Int) (w : World) : Calls Try.prog 60 #[.int .i64 x] w fun e w' => e = .returned (.bool (!priceB x)) ∧ Drawn0 w w' := by
 have A1 : impl_within.f x 0 1000 = some (priceB x) := by
  unfold impl_within.f priceB
  by_cases h : 0 ≤ x
  ·rw [if_pos h]; simp [h]
  ·rw [if_neg h]; simp [h]
 have A2 := Aside0.mk A1; clear A1
 go_enter Try.func60, Try.ntmps60
 go_wp2_with (first | ((with_reducible refine (impl_within.calls x 0 1000 (priceB x) _ A2.out).mono ?_); rintro e w5 ⟨rfl, m5, rfl⟩) | fail)
 go_ret
 exact ⟨rfl, by repeat (first | exact Drawn0.refl _ | apply Drawn0.step)⟩
set_option maxHeartbeats 2000000 in
set_option maxRecDepth 100000 in
theorem idx_calls (A0 : Option Addr) (c0 : Nat) (l0 : List Int) (w : World) (hr0 : Kd.C (Kd.int .i64) w A0 l0.length l0) (hc0 : l0.length ≤ c0) :
  Calls Try.prog 61 #[.slice A0 l0.length c0, .func (.func 60) #[] #[]] w fun e w' => e = .returned (.int .i64 (badGo l0 0)) ∧ Drawn0 w w' := by
 have HR0 := Aside0.mk hr0; have HC0 := Aside0.mk hc0; have HM := Aside0.mk hr0.2.1; clear hr0 hc0
 go_enter Try.func61, Try.ntmps61
 go_wp2
 go_loopg [8] (l0.length + 1) (fun kq v8 w' => ∃ x : Int, v8 = .int .i64 x ∧ Aside0 (0 ≤ x ∧ (kq : Int) + x = l0.length + 1) ∧ Aside0 (badGo l0 0 = badGo (l0.drop x.toNat) x.toNat) ∧ Drawn0 w w')
 case atStart => exact ⟨0, by first | rfl | (simp; done), ⟨⟨by omega, by omega⟩⟩, ⟨rfl⟩, by repeat (first | exact Drawn0.refl _ | apply Drawn0.step)⟩
 case round =>
  obtain ⟨x, rfl, HJ, HG, ⟨m1, rfl⟩⟩ := hrel
  cases gk with
  | zero =>
   have hlt' : decide (x < (l0.length : Int)) = false := decide_eq_false (by have := HJ.out; omega)
   have hn : l0.drop x.toNat = [] := List.drop_of_length_le (by have := HJ.out; omega)
   have HN := Aside0.mk hn; clear hn
   go_wp2
   go_ret
   exact ⟨by rw [HG.out, HN.out]; rfl, by repeat (first | exact Drawn0.refl _ | apply Drawn0.step)⟩
  | succ k1 =>
   by_cases hlt : x < (l0.length : Int)
   ·have p1 : 0 ≤ x := HJ.out.1
    have hd : l0.drop x.toNat = rd l0 x :: l0.drop (x.toNat + 1) := by
     have hl : x.toNat < l0.length := by omega
     rw [List.drop_eq_getElem_cons hl]; congr 1; unfold rd; simp [List.getD_eq_getElem?_getD, List.getElem?_eq_getElem hl]
    have hlt' : decide (x < (l0.length : Int)) = true := decide_eq_true hlt
    have e5 : wrap64 (x + 1) = x + 1 := by have := HM.out; unfold wrap64; omega
    have q1 := hlt
    obtain ⟨ad1, e1, hx1⟩ := Kd.at_int HR0.out x p1 q1
    cases e1; have HD := Aside0.mk hd; have E5 := Aside0.mk e5; clear e5 hd hlt; replace p1 := eq_true p1; replace q1 := eq_true q1
    by_cases hp : priceB (rd l0 x) = true
    ·have hp2 : (!priceB (rd l0 x)) = false := by rw [hp]; rfl
     have HP := Aside0.mk hp; clear hp
     go_wp2_with (first | ((with_reducible refine (clo_calls _ _).mono ?_); rintro e w5 ⟨rfl, m5, rfl⟩) | fail)
     go_roundg k1
     case measure => have := HJ.out; omega
     case rel => exact ⟨wrap64 (x + 1), by first | rfl | (simp; done), ⟨by rw [E5.out]; have := HJ.out; omega⟩, ⟨by rw [E5.out, HG.out, HD.out, show (x + 1).toNat = x.toNat + 1 by have := HJ.out; omega]; simp only [badGo]; rw [if_pos HP.out]⟩, by repeat (first | exact Drawn0.refl _ | apply Drawn0.step)⟩
    ·have hp2 : (!priceB (rd l0 x)) = true := by rw [Bool.eq_false_iff.mpr hp]; rfl
     have HP := Aside0.mk hp; clear hp
     go_wp2_with (first | ((with_reducible refine (clo_calls _ _).mono ?_); rintro e w5 ⟨rfl, m5, rfl⟩) | fail)
     go_ret
     refine ⟨?_, by repeat (first | exact Drawn0.refl _ | apply Drawn0.step)⟩
     rw [HG.out, HD.out]; simp only [badGo]; rw [if_neg HP.out, Int.toNat_of_nonneg HJ.out.1]; rfl
   ·have hlt' : decide (x < (l0.length : Int)) = false := decide_eq_false hlt
    have hn : l0.drop x.toNat = [] := List.drop_of_length_le (by have := HJ.out; omega)
    have HN := Aside0.mk hn; clear hn hlt
    go_wp2
    go_ret
    exact ⟨by rw [HG.out, HN.out]; rfl, by repeat (first | exact Drawn0.refl _ | apply Drawn0.step)⟩
theorem has_calls (A0 : Option Addr) (c0 : Nat) (l0 : List Int) (w : World) (hr0 : Kd.C (Kd.int .i64) w A0 l0.length l0) (hc0 : l0.length ≤ c0) :
  Calls Try.prog 59 #[.slice A0 l0.length c0, .func (.func 60) #[] #[]] w fun e w' => e = .returned (.bool (decide (0 ≤ badGo l0 0))) ∧ Drawn0 w w' := by
 have HR0 := Aside0.mk hr0; have HC0 := Aside0.mk hc0; clear hr0 hc0
 go_enter Try.func59, Try.ntmps59
 go_wp2_with (first | ((with_reducible refine (idx_calls A0 c0 l0 _ HR0.out HC0.out).mono ?_); rintro e w5 ⟨rfl, m5, rfl⟩) | fail)
 go_ret
 exact ⟨rfl, by repeat (first | exact Drawn0.refl _ | apply Drawn0.step)⟩
def impl_pricesOk.f (l0 : List Int) (a1 : Int) : Option Bool := some (decide ((l0.length : Int) = a1) && !decide (0 ≤ badGo l0 0))
theorem impl_pricesOk.calls (A0 : Option Addr) (c0 : Nat) (l0 : List Int) (a1 : Int) (r : Bool) (w : World) (hr0 : Kd.C (Kd.int .i64) w A0 l0.length l0) (hc0 : l0.length ≤ c0) (h : impl_pricesOk.f l0 a1 = some r) :
  Calls Try.prog 52 #[.slice A0 l0.length c0, .int .i64 a1] w fun e w' => e = .returned (.bool r) ∧ Below w.heap.size w w' := by
 obtain rfl := Option.some.inj h
 have HR0 := Aside0.mk hr0; have HC0 := Aside0.mk hc0; have HB := Aside0.mk (Below.refl w.heap.size w); clear hr0 hc0 h
 by_cases hl : (l0.length : Int) = a1
 ·have hl1 : ((l0.length : Int) == a1) = true := beq_iff_eq.mpr hl
  have hl2 : decide ((l0.length : Int) = a1) = true := decide_eq_true hl
  have HL := Aside0.mk hl2; clear hl hl2
  go_enter Try.func52, Try.ntmps52
  go_wp2_with (first | ((with_reducible refine (has_calls A0 c0 l0 _ HR0.out HC0.out).mono ?_); rintro e w5 ⟨rfl, m5, rfl⟩) | fail)
  go_ret
  exact ⟨by first | rfl | (rw [HL.out]; rfl), by repeat (first | exact HB.out | apply below_alloc | apply pw_below_drewN | apply below_drew1)⟩
 ·have hl1 : ((l0.length : Int) == a1) = false := beq_eq_false_iff_ne.mpr hl
  have hl2 : decide ((l0.length : Int) = a1) = false := decide_eq_false hl
  have HL := Aside0.mk hl2; clear hl hl2
  go_enter Try.func52, Try.ntmps52
  go_wp2
  go_ret
  exact ⟨by first | rfl | (rw [HL.out]; rfl), by repeat (first | exact HB.out | apply below_alloc | apply pw_below_drewN | apply below_drew1)⟩

/-! ### impl_CostOk: function 34 -/
mutual
def impl_CostOk.j0 : Nat → Bool → List Int → List Int → List Int → Option (Bool)
 | 0, _, _, _, _ => none
 | k + 1, x19, x529000, x529001, x529002 => if x19 = true then (some false) else (impl_CostOk.l0 k 0 x529000 x529001 x529002)
def impl_CostOk.l0 : Nat → Int → List Int → List Int → List Int → Option (Bool)
 | 0, _, _, _, _ => none
 | k + 1, x20, x529000, x529001, x529002 => if x20 < 6 then (if 0 ≤ (wrap64 ((wrap64 (x20 * 6)) + x20)) then (if (wrap64 ((wrap64 (x20 * 6)) + x20)) < (x529002.length : Int) then (if (rd x529002 (wrap64 ((wrap64 (x20 * 6)) + x20))) = 0 then (impl_CostOk.l0 k (wrap64 (x20 + 1)) x529000 x529001 x529002) else (some false)) else (none)) else (none)) else (some true)
end
def impl_CostOk.f (k : Nat) (l0_0 : List Int) (l0_1 : List Int) (l0_2 : List Int) : Option (Bool) := (impl_pricesOk.f l0_0 6).bind fun t529 => (if t529 = true then ((impl_pricesOk.f l0_1 6).bind fun t530 => (if t530 = true then ((impl_pricesOk.f l0_2 36).bind fun t531 => (impl_CostOk.j0 k (!t531) l0_0 l0_1 l0_2)) else (impl_CostOk.j0 k true l0_0 l0_1 l0_2))) else (impl_CostOk.j0 k true l0_0 l0_1 l0_2))
theorem impl_CostOk.mono_l : ∀ k, (∀ y0 y1 y2 y3, LeO (impl_CostOk.j0 k y0 y1 y2 y3) (impl_CostOk.j0 (k + 1) y0 y1 y2 y3)) ∧ (∀ y0 y1 y2 y3, LeO (impl_CostOk.l0 k y0 y1 y2 y3) (impl_CostOk.l0 (k + 1) y0 y1 y2 y3))
 | 0 => ⟨fun _ _ _ _ r h => by simp [impl_CostOk.j0] at h, fun _ _ _ _ r h => by simp [impl_CostOk.l0] at h⟩
 | k + 1 => by
  obtain ⟨ih0, ih1⟩ := impl_CostOk.mono_l k
  refine ⟨?_, ?_⟩
  ·intro y0 y1 y2 y3
   unfold impl_CostOk.j0
   repeat' first
   | (with_reducible exact ih0 _ _ _ _)
   | (with_reducible exact ih1 _ _ _ _)
   | (with_reducible exact LeO.refl _)
   | (with_reducible exact LeO.none _)
   | (with_reducible refine LeO.ite ?_ ?_)
   | (with_reducible refine LeO.bind ?_ (fun _ => ?_))
   | exact ih0 _ _ _ _
   | exact ih1 _ _ _ _
   | exact LeO.none _
   | refine LeO.ite ?_ ?_
   | refine LeO.bind ?_ (fun _ => ?_)
  ·intro y0 y1 y2 y3
   unfold impl_CostOk.l0
   repeat' first
   | (with_reducible exact ih0 _ _ _ _)
   | (with_reducible exact ih1 _ _ _ _)
   | (with_reducible exact LeO.refl _)
   | (with_reducible exact LeO.none _)
   | (with_reducible refine LeO.ite ?_ ?_)
   | (with_reducible refine LeO.bind ?_ (fun _ => ?_))
   | exact ih0 _ _ _ _
   | exact ih1 _ _ _ _
   | exact LeO.none _
   | refine LeO.ite ?_ ?_
   | refine LeO.bind ?_ (fun _ => ?_)
theorem impl_CostOk.mono : ∀ a0 a1 a2 k, LeO (impl_CostOk.f k a0 a1 a2) (impl_CostOk.f (k + 1) a0 a1 a2) := by
 intro a0 a1 a2 k
 obtain ⟨ih0, ih1⟩ := impl_CostOk.mono_l k
 unfold impl_CostOk.f
 repeat' first
   | (with_reducible exact ih0 _ _ _ _)
   | (with_reducible exact ih1 _ _ _ _)
   | (with_reducible exact LeO.refl _)
   | (with_reducible exact LeO.none _)
   | (with_reducible refine LeO.ite ?_ ?_)
   | (with_reducible refine LeO.bind ?_ (fun _ => ?_))
   | exact ih0 _ _ _ _
   | exact ih1 _ _ _ _
   | exact LeO.none _
   | refine LeO.ite ?_ ?_
   | refine LeO.bind ?_ (fun _ => ?_)
set_option maxHeartbeats 8000000 in
set_option maxRecDepth 100000 in
theorem impl_CostOk.calls (k : Nat) (A0_0 : Option Addr) (c0_0 : Nat) (l0_0 : List Int) (A0_1 : Option Addr) (c0_1 : Nat) (l0_1 : List Int) (A0_2 : Option Addr) (c0_2 : Nat) (l0_2 : List Int) (r : Bool) (w : World) (hr0_0 : Kd.C (Kd.int .i64) w A0_0 l0_0.length l0_0) (hc0_0 : l0_0.length ≤ c0_0) (hr0_1 : Kd.C (Kd.int .i64) w A0_1 l0_1.length l0_1) (hc0_1 : l0_1.length ≤ c0_1) (hr0_2 : Kd.C (Kd.int .i64) w A0_2 l0_2.length l0_2) (hc0_2 : l0_2.length ≤ c0_2) (h : impl_CostOk.f k l0_0 l0_1 l0_2 = some r) :
  Calls Try.prog 34 #[.agg #[.slice A0_0 l0_0.length c0_0, .slice A0_1 l0_1.length c0_1, .slice A0_2 l0_2.length c0_2]] w fun e w' => e = .returned (.bool r) ∧ Below w.heap.size w w' := by
 have hu35 := Try.underlying35; have HR0_0 := Aside0.mk hr0_0; have HC0_0 := Aside0.mk hc0_0; clear hr0_0 hc0_0; have HR0_1 := Aside0.mk hr0_1; have HC0_1 := Aside0.mk hc0_1; clear hr0_1 hc0_1; have HR0_2 := Aside0.mk hr0_2; have HC0_2 := Aside0.mk hc0_2; clear hr0_2 hc0_2; have HB := Aside0.mk (Below.refl w.heap.size w)
 have H : ((impl_pricesOk.f l0_0 6).bind fun t529 => (if t529 = true then ((impl_pricesOk.f l0_1 6).bind fun t530 => (if t530 = true then ((impl_pricesOk.f l0_2 36).bind fun t531 => (impl_CostOk.j0 k (!t531) l0_0 l0_1 l0_2)) else (impl_CostOk.j0 k true l0_0 l0_1 l0_2))) else (impl_CostOk.j0 k true l0_0 l0_1 l0_2))) = some r := h
 clear h; have HC2 := Aside0.mk H; clear H
 go_enter Try.func34, Try.ntmps34
 go_upto_region 1 with (first | ((with_reducible refine gate_dst (N := 1) rfl ?_); refine box_event ?hg (N := 1) ?hd (cs := #[.slice A0_0 l0_0.length c0_0, .slice A0_1 l0_1.length c0_1, .slice A0_2 l0_2.length c0_2]) (t := 35) ?hr ?_; (case hd => rfl); (case hg => rfl); (case hr => first | (go_simp; done) | (go_simp; rfl)); intro gb528 hg w3 hbox hb; have n0_ := Aside0.mk (below_step (upB HB.out) hb); have n1_ := Aside0.mk (hbox); have n2_ := Aside0.mk ((by rw [hg]; exact (below_size (upB HB.out)) : w.heap.size ≤ gb528)); have n3_ := Aside0.mk ((by rw [hg]; exact (below_size (upB HB.out)) : w.heap.size ≤ gb528)); clear HB; have HB := n0_; have BK528 := n1_; have GW528 := n2_; have GE528 := n3_; clear n0_ n1_ n2_ n3_; clear hb hbox hg))
 (try simp only [Act.put, List.setIfInBounds_toArray, List.set_cons_zero, List.set_cons_succ])
 go_cut [19] (fun v19 wc => ∃ (kq : Nat) (x19_1 : Bool), v19 = .bool x19_1 ∧ Aside0 (impl_CostOk.j0 kq x19_1 l0_0 l0_1 l0_2 = some r) ∧ Aside0 (kq ≤ k) ∧ Aside0 (wc.heap[gb528]? = some (.cells #[(.slice A0_0 l0_0.length c0_0), (.slice A0_1 l0_1.length c0_1), (.slice A0_2 l0_2.length c0_2)] 35 (0, 0))) ∧ Aside0 (Below w.heap.size w wc))
 case first =>
  have H := HC2.out; clear HC2; replace H := Option.bind_eq_some_iff.mp H
  obtain ⟨t529, A40, H⟩ := H
  replace H : (if t529 = true then ((impl_pricesOk.f l0_1 6).bind fun t530 => (if t530 = true then ((impl_pricesOk.f l0_2 36).bind fun t531 => (impl_CostOk.j0 k (!t531) l0_0 l0_1 l0_2)) else (impl_CostOk.j0 k true l0_0 l0_1 l0_2))) else (impl_CostOk.j0 k true l0_0 l0_1 l0_2)) = some r := H
  have A4 := Aside0.mk A40; clear A40
  by_cases c5 : t529 = true
  ·subst c5
   have H1 : ((impl_pricesOk.f l0_1 6).bind fun t530 => (if t530 = true then ((impl_pricesOk.f l0_2 36).bind fun t531 => (impl_CostOk.j0 k (!t531) l0_0 l0_1 l0_2)) else (impl_CostOk.j0 k true l0_0 l0_1 l0_2))) = some r := by rw [if_pos rfl] at H; exact H
   clear H; have H := H1; clear H1; replace H := Option.bind_eq_some_iff.mp H
   obtain ⟨t530, A60, H⟩ := H
   replace H : (if t530 = true then ((impl_pricesOk.f l0_2 36).bind fun t531 => (impl_CostOk.j0 k (!t531) l0_0 l0_1 l0_2)) else (impl_CostOk.j0 k true l0_0 l0_1 l0_2)) = some r := H
   have A6 := Aside0.mk A60; clear A60
   by_cases c7 : t530 = true
   ·subst c7
    have H1 : ((impl_pricesOk.f l0_2 36).bind fun t531 => (impl_CostOk.j0 k (!t531) l0_0 l0_1 l0_2)) = some r := by rw [if_pos rfl] at H; exact H
    clear H; have H := H1; clear H1; replace H := Option.bind_eq_some_iff.mp H
    obtain ⟨t531, A80, H⟩ := H
    replace H : (impl_CostOk.j0 k (!t531) l0_0 l0_1 l0_2) = some r := H
    have A8 := Aside0.mk A80; clear A80; have H' := Aside0.mk H; clear H
    have hcz9_0 : w3.cell? ⟨gb528, 0, none⟩ = some (.slice A0_0 l0_0.length c0_0) := (blk_cell BK528.out 0).trans rfl
    have hcz9_1 : w3.cell? ⟨gb528, 1, none⟩ = some (.slice A0_1 l0_1.length c0_1) := (blk_cell BK528.out 1).trans rfl
    have hcz9_2 : w3.cell? ⟨gb528, 2, none⟩ = some (.slice A0_2 l0_2.length c0_2) := (blk_cell BK528.out 2).trans rfl
    have hfz9_0 := blk_frozen BK528.out 0; have hfz9_1 := blk_frozen BK528.out 1; have hfz9_2 := blk_frozen BK528.out 2
    go_wp2_with (first | ((with_reducible refine gate_callee (f := 52) rfl ?_); refine goesM (some 6) Try.func52 #[.slice A0_0 l0_0.length c0_0, .int .i64 6] ?_; (with_reducible refine (impl_pricesOk.calls _ _ l0_0 6 true _ ?side1 ?side2 A4.out).mono ?_); (case side1 => exact upC (Kd.C_below HR0_0.out HB.out)); (case side2 => exact HC0_0.out); rintro e w10 ⟨rfl, hb⟩; refine ⟨_, rfl, ?_⟩; have n0_ := Aside0.mk (blkB BK528.out hb); have n1_ := Aside0.mk (below_step (upB HB.out) hb); clear BK528; clear HB; have BK528 := n0_; have HB := n1_; clear n0_ n1_; (try clear hb); (try clear hb2); (try clear hk); (try clear hi); have hcz11_0 : w10.cell? ⟨gb528, 0, none⟩ = some (.slice A0_0 l0_0.length c0_0) := (blk_cell BK528.out 0).trans rfl; have hcz11_1 : w10.cell? ⟨gb528, 1, none⟩ = some (.slice A0_1 l0_1.length c0_1) := (blk_cell BK528.out 1).trans rfl; have hcz11_2 : w10.cell? ⟨gb528, 2, none⟩ = some (.slice A0_2 l0_2.length c0_2) := (blk_cell BK528.out 2).trans rfl; have hfz11_0 := blk_frozen BK528.out 0; have hfz11_1 := blk_frozen BK528.out 1; have hfz11_2 := blk_frozen BK528.out 2) | (go_at_call 52; (with_reducible refine (impl_pricesOk.calls _ _ l0_1 6 true _ ?side1 ?side2 A6.out).mono ?_); (case side1 => exact upC (Kd.C_below HR0_1.out HB.out)); (case side2 => exact HC0_1.out); rintro e w12 ⟨rfl, hb⟩; have n0_ := Aside0.mk (blkB BK528.out hb); have n1_ := Aside0.mk (below_step (upB HB.out) hb); clear BK528; clear HB; have BK528 := n0_; have HB := n1_; clear n0_ n1_; (try clear hb); (try clear hb2); (try clear hk); (try clear hi); have hcz13_0 : w12.cell? ⟨gb528, 0, none⟩ = some (.slice A0_0 l0_0.length c0_0) := (blk_cell BK528.out 0).trans rfl; have hcz13_1 : w12.cell? ⟨gb528, 1, none⟩ = some (.slice A0_1 l0_1.length c0_1) := (blk_cell BK528.out 1).trans rfl; have hcz13_2 : w12.cell? ⟨gb528, 2, none⟩ = some (.slice A0_2 l0_2.length c0_2) := (blk_cell BK528.out 2).trans rfl; have hfz13_0 := blk_frozen BK528.out 0; have hfz13_1 := blk_frozen BK528.out 1; have hfz13_2 := blk_frozen BK528.out 2) | (go_at_call 52; (with_reducible refine (impl_pricesOk.calls _ _ l0_2 36 t531 _ ?side1 ?side2 A8.out).mono ?_); (case side1 => exact upC (Kd.C_below HR0_2.out HB.out)); (case side2 => exact HC0_2.out); rintro e w14 ⟨rfl, hb⟩; have n0_ := Aside0.mk (blkB BK528.out hb); have n1_ := Aside0.mk (below_step (upB HB.out) hb); clear BK528; clear HB; have BK528 := n0_; have HB := n1_; clear n0_ n1_; (try clear hb); (try clear hb2); (try clear hk); (try clear hi)))
    go_meet
    case rel => exact ⟨_, (!t531), (by first | rfl | (simp; done) | (simp [*]; done)), H', ⟨by first | omega | exact Nat.le_refl _⟩, ⟨by (with_reducible repeat (first | refine blk_drewN ?_ _ | refine blk_drew ?_ | refine blk_alloc ?_ _)); exact BK528.out⟩, ⟨upB HB.out⟩⟩
   ·replace c7 := Bool.eq_false_iff.mpr c7
    subst c7
    have H1 : (impl_CostOk.j0 k true l0_0 l0_1 l0_2) = some r := by rw [if_neg (show ¬ (false = true) by decide)] at H; exact H
    clear H; have H := H1; clear H1; have H' := Aside0.mk H; clear H
    have hcz15_0 : w3.cell? ⟨gb528, 0, none⟩ = some (.slice A0_0 l0_0.length c0_0) := (blk_cell BK528.out 0).trans rfl
    have hcz15_1 : w3.cell? ⟨gb528, 1, none⟩ = some (.slice A0_1 l0_1.length c0_1) := (blk_cell BK528.out 1).trans rfl
    have hcz15_2 : w3.cell? ⟨gb528, 2, none⟩ = some (.slice A0_2 l0_2.length c0_2) := (blk_cell BK528.out 2).trans rfl
    have hfz15_0 := blk_frozen BK528.out 0; have hfz15_1 := blk_frozen BK528.out 1; have hfz15_2 := blk_frozen BK528.out 2
    go_wp2_with (first | ((with_reducible refine gate_callee (f := 52) rfl ?_); refine goesM (some 6) Try.func52 #[.slice A0_0 l0_0.length c0_0, .int .i64 6] ?_; (with_reducible refine (impl_pricesOk.calls _ _ l0_0 6 true _ ?side1 ?side2 A4.out).mono ?_); (case side1 => exact upC (Kd.C_below HR0_0.out HB.out)); (case side2 => exact HC0_0.out); rintro e w16 ⟨rfl, hb⟩; refine ⟨_, rfl, ?_⟩; have n0_ := Aside0.mk (blkB BK528.out hb); have n1_ := Aside0.mk (below_step (upB HB.out) hb); clear BK528; clear HB; have BK528 := n0_; have HB := n1_; clear n0_ n1_; (try clear hb); (try clear hb2); (try clear hk); (try clear hi); have hcz17_0 : w16.cell? ⟨gb528, 0, none⟩ = some (.slice A0_0 l0_0.length c0_0) := (blk_cell BK528.out 0).trans rfl; have hcz17_1 : w16.cell? ⟨gb528, 1, none⟩ = some (.slice A0_1 l0_1.length c0_1) := (blk_cell BK528.out 1).trans rfl; have hcz17_2 : w16.cell? ⟨gb528, 2, none⟩ = some (.slice A0_2 l0_2.length c0_2) := (blk_cell BK528.out 2).trans rfl; have hfz17_0 := blk_frozen BK528.out 0; have hfz17_1 := blk_frozen BK528.out 1; have hfz17_2 := blk_frozen BK528.out 2) | (go_at_call 52; (with_reducible refine (impl_pricesOk.calls _ _ l0_1 6 false _ ?side1 ?side2 A6.out).mono ?_); (case side1 => exact upC (Kd.C_below HR0_1.out HB.out)); (case side2 => exact HC0_1.out); rintro e w18 ⟨rfl, hb⟩; have n0_ := Aside0.mk (blkB BK528.out hb); have n1_ := Aside0.mk (below_step (upB HB.out) hb); clear BK528; clear HB; have BK528 := n0_; have HB := n1_; clear n0_ n1_; (try clear hb); (try clear hb2); (try clear hk); (try clear hi)))
    go_meet
    case rel => exact ⟨_, (true), (by first | rfl | (simp; done) | (simp [*]; done)), H', ⟨by first | omega | exact Nat.le_refl _⟩, ⟨by (with_reducible repeat (first | refine blk_drewN ?_ _ | refine blk_drew ?_ | refine blk_alloc ?_ _)); exact BK528.out⟩, ⟨upB HB.out⟩⟩
  ·replace c5 := Bool.eq_false_iff.mpr c5
   subst c5
   have H1 : (impl_CostOk.j0 k true l0_0 l0_1 l0_2) = some r := by rw [if_neg (show ¬ (false = true) by decide)] at H; exact H
   clear H; have H := H1; clear H1; have H' := Aside0.mk H; clear H
   have hcz19_0 : w3.cell? ⟨gb528, 0, none⟩ = some (.slice A0_0 l0_0.length c0_0) := (blk_cell BK528.out 0).trans rfl
   have hcz19_1 : w3.cell? ⟨gb528, 1, none⟩ = some (.slice A0_1 l0_1.length c0_1) := (blk_cell BK528.out 1).trans rfl
   have hcz19_2 : w3.cell? ⟨gb528, 2, none⟩ = some (.slice A0_2 l0_2.length c0_2) := (blk_cell BK528.out 2).trans rfl
   have hfz19_0 := blk_frozen BK528.out 0; have hfz19_1 := blk_frozen BK528.out 1; have hfz19_2 := blk_frozen BK528.out 2
   go_wp2_with (first | ((with_reducible refine gate_callee (f := 52) rfl ?_); refine goesM (some 6) Try.func52 #[.slice A0_0 l0_0.length c0_0, .int .i64 6] ?_; (with_reducible refine (impl_pricesOk.calls _ _ l0_0 6 false _ ?side1 ?side2 A4.out).mono ?_); (case side1 => exact upC (Kd.C_below HR0_0.out HB.out)); (case side2 => exact HC0_0.out); rintro e w20 ⟨rfl, hb⟩; refine ⟨_, rfl, ?_⟩; have n0_ := Aside0.mk (blkB BK528.out hb); have n1_ := Aside0.mk (below_step (upB HB.out) hb); clear BK528; clear HB; have BK528 := n0_; have HB := n1_; clear n0_ n1_; (try clear hb); (try clear hb2); (try clear hk); (try clear hi)))
   go_meet
   case rel => exact ⟨_, (true), (by first | rfl | (simp; done) | (simp [*]; done)), H', ⟨by first | omega | exact Nat.le_refl _⟩, ⟨by (with_reducible repeat (first | refine blk_drewN ?_ _ | refine blk_drew ?_ | refine blk_alloc ?_ _)); exact BK528.out⟩, ⟨upB HB.out⟩⟩
 case rest =>
  clear HC2
  try clear p2
  try clear c3
  try clear c5
  try clear c7
  try clear hcz11_0
  try clear hcz11_1
  try clear hcz11_2
  try clear hcz13_0
  try clear hcz13_1
  try clear hcz13_2
  try clear hcz15_0
  try clear hcz15_1
  try clear hcz15_2
  try clear hcz17_0
  try clear hcz17_1
  try clear hcz17_2
  try clear hcz19_0
  try clear hcz19_1
  try clear hcz19_2
  try clear hcz9_0
  try clear hcz9_1
  try clear hcz9_2
  try clear hfz11_0
  try clear hfz11_1
  try clear hfz11_2
  try clear hfz13_0
  try clear hfz13_1
  try clear hfz13_2
  try clear hfz15_0
  try clear hfz15_1
  try clear hfz15_2
  try clear hfz17_0
  try clear hfz17_1
  try clear hfz17_2
  try clear hfz19_0
  try clear hfz19_1
  try clear hfz19_2
  try clear hfz9_0
  try clear hfz9_1
  try clear hfz9_2
  obtain ⟨kq, x19_1, rfl, HA, HJ1, BK528, HB⟩ := hcut
  cases kq with
  | zero => exact absurd HA.out (by simp [impl_CostOk.j0])
  | succ kj1 =>
   have H := HA.out; clear HA
   simp only [impl_CostOk.j0] at H
   by_cases c21 : x19_1 = true
   ·subst c21
    have H1 : (some false) = some r := by rw [if_pos rfl] at H; exact H
    clear H; have H := H1; clear H1
    obtain rfl := Option.some.inj H
    simp only [Option.some.injEq, Prod.mk.injEq] at H
    obtain ⟨rfl⟩ := H
    go_wp2
    go_ret
    exact ⟨by first | rfl | (simp [errW_none, errW_some] <;> rfl) | (simp [*, errW_none, errW_some] <;> rfl), upB HB.out⟩
   ·replace c21 := Bool.eq_false_iff.mpr c21
    subst c21
    have H1 : (impl_CostOk.l0 kj1 0 l0_0 l0_1 l0_2) = some r := by rw [if_neg (show ¬ (false = true) by decide)] at H; exact H
    clear H; have H := H1; clear H1; have H' := Aside0.mk H; clear H
    go_wp2
    go_loopg [20] kj1 (fun kq v20 w' => ∃ (x20_2 : Int), v20 = .int .i64 x20_2 ∧ Aside0 (impl_CostOk.l0 kq x20_2 l0_0 l0_1 l0_2 = some r) ∧ Aside0 (kq ≤ kj1) ∧ Aside0 (w'.heap[gb528]? = some (.cells #[(.slice A0_0 l0_0.length c0_0), (.slice A0_1 l0_1.length c0_1), (.slice A0_2 l0_2.length c0_2)] 35 (0, 0))) ∧ Aside0 (Below w.heap.size w w'))
    case atStart => exact ⟨(0), (by first | rfl | (simp; done) | (simp [*]; done)), H', ⟨Nat.le_refl _⟩, ⟨by (with_reducible repeat (first | refine blk_drewN ?_ _ | refine blk_drew ?_ | refine blk_alloc ?_ _)); exact BK528.out⟩, ⟨upB HB.out⟩⟩
    case round =>
     clear H'
     try clear c2
     try clear p2
     try clear c3
     try clear c5
     try clear c7
     try clear c21
     try clear hcz11_0
     try clear hcz11_1
     try clear hcz11_2
     try clear hcz13_0
     try clear hcz13_1
     try clear hcz13_2
     try clear hcz15_0
     try clear hcz15_1
     try clear hcz15_2
     try clear hcz17_0
     try clear hcz17_1
     try clear hcz17_2
     try clear hcz19_0
     try clear hcz19_1
     try clear hcz19_2
     try clear hcz9_0
     try clear hcz9_1
     try clear hcz9_2
     try clear hfz11_0
     try clear hfz11_1
     try clear hfz11_2
     try clear hfz13_0
     try clear hfz13_1
     try clear hfz13_2
     try clear hfz15_0
     try clear hfz15_1
     try clear hfz15_2
     try clear hfz17_0
     try clear hfz17_1
     try clear hfz17_2
     try clear hfz19_0
     try clear hfz19_1
     try clear hfz19_2
     try clear hfz9_0
     try clear hfz9_1
     try clear hfz9_2
     try clear p2
     obtain ⟨x20_2, rfl, HA, HK2, BK528, HB⟩ := hrel
     cases gk with
     | zero => exact absurd HA.out (by simp [impl_CostOk.l0])
     | succ k2 =>
      have H := HA.out; clear HA
      simp only [impl_CostOk.l0] at H
      by_cases c22 : x20_2 < 6
      ·rw [if_pos c22] at H
       have c22b0 : decide (x20_2 < 6) = true := decide_eq_true c22
       clear c22
       obtain ⟨ji23, hji23⟩ : ∃ j_ : Int, (wrap64 ((wrap64 (x20_2 * 6)) + x20_2)) = j_ := ⟨_, rfl⟩
       replace H : (if 0 ≤ (ji23) then (if (ji23) < (l0_2.length : Int) then (if (rd l0_2 (ji23)) = 0 then (impl_CostOk.l0 k2 (wrap64 (x20_2 + 1)) l0_0 l0_1 l0_2) else (some false)) else (none)) else (none)) = some r := by first | (rw [hji23] at H; exact H) | (simp only [hji23] at H ⊢; exact H)
       have hji23w : (IntKind.i64.wrap ((wrap64 (x20_2 * 6)) + x20_2)) = ji23 := (i64_w _).trans hji23
       by_cases c24 : 0 ≤ (ji23)
       ·rw [if_pos c24] at H
        have c24b0 : decide (0 ≤ (ji23)) = true := decide_eq_true c24
        clear c24
        by_cases c25 : (ji23) < (l0_2.length : Int)
        ·rw [if_pos c25] at H
         have c25b0 : decide ((ji23) < (l0_2.length : Int)) = true := decide_eq_true c25
         clear c25
         by_cases c26 : (rd l0_2 (ji23)) = 0
         ·rw [if_pos c26] at H
          have c26b0 : ((rd l0_2 (ji23)) == 0) = true := beq_iff_eq.mpr c26
          have c26b1 : ((rd l0_2 (ji23)) != 0) = false := bne_eq_false_iff_eq.mpr c26
          clear c26; have H' := Aside0.mk H; clear H
          have hcz27_0 : wr.cell? ⟨gb528, 0, none⟩ = some (.slice A0_0 l0_0.length c0_0) := (blk_cell BK528.out 0).trans rfl
          have hcz27_1 : wr.cell? ⟨gb528, 1, none⟩ = some (.slice A0_1 l0_1.length c0_1) := (blk_cell BK528.out 1).trans rfl
          have hcz27_2 : wr.cell? ⟨gb528, 2, none⟩ = some (.slice A0_2 l0_2.length c0_2) := (blk_cell BK528.out 2).trans rfl
          have hfz27_0 := blk_frozen BK528.out 0; have hfz27_1 := blk_frozen BK528.out 1; have hfz27_2 := blk_frozen BK528.out 2
          have p532 : 0 ≤ ((ji23) : Int) := of_decide_eq_true (by first | (with_reducible assumption) | assumption)
          have q532 : (ji23) < (l0_2.length : Int) := of_decide_eq_true (by first | (with_reducible assumption) | assumption)
          obtain ⟨ad532, e532, hx532_0⟩ := Kd.at_int HR0_2.out (ji23) p532 q532
          cases e532; replace hx532_0 := (HB.out.cell (World.block_lt_of_cell? w _ hx532_0)).trans hx532_0; replace p532 := eq_true p532; replace q532 := eq_true q532
          go_wp2
          go_roundg k2
          case measure => have := HJ1.out; have := HK2.out; omega
          case rel => exact ⟨(wrap64 (x20_2 + 1)), (by first | rfl | (simp; done) | (simp [*]; done)), H', ⟨by have := HJ1.out; have := HK2.out; omega⟩, ⟨by (with_reducible repeat (first | refine blk_drewN ?_ _ | refine blk_drew ?_ | refine blk_alloc ?_ _)); exact BK528.out⟩, ⟨upB HB.out⟩⟩
         ·rw [if_neg c26] at H
          have c26b0 : ((rd l0_2 (ji23)) == 0) = false := beq_eq_false_iff_ne.mpr c26
          have c26b1 : ((rd l0_2 (ji23)) != 0) = true := bne_iff_ne.mpr c26
          obtain rfl := Option.some.inj H
          simp only [Option.some.injEq, Prod.mk.injEq] at H
          obtain ⟨rfl⟩ := H
          have hcz28_0 : wr.cell? ⟨gb528, 0, none⟩ = some (.slice A0_0 l0_0.length c0_0) := (blk_cell BK528.out 0).trans rfl
          have hcz28_1 : wr.cell? ⟨gb528, 1, none⟩ = some (.slice A0_1 l0_1.length c0_1) := (blk_cell BK528.out 1).trans rfl
          have hcz28_2 : wr.cell? ⟨gb528, 2, none⟩ = some (.slice A0_2 l0_2.length c0_2) := (blk_cell BK528.out 2).trans rfl
          have hfz28_0 := blk_frozen BK528.out 0; have hfz28_1 := blk_frozen BK528.out 1; have hfz28_2 := blk_frozen BK528.out 2
          have p532 : 0 ≤ ((ji23) : Int) := of_decide_eq_true (by first | (with_reducible assumption) | assumption)
          have q532 : (ji23) < (l0_2.length : Int) := of_decide_eq_true (by first | (with_reducible assumption) | assumption)
          obtain ⟨ad532, e532, hx532_0⟩ := Kd.at_int HR0_2.out (ji23) p532 q532
          cases e532; replace hx532_0 := (HB.out.cell (World.block_lt_of_cell? w _ hx532_0)).trans hx532_0; replace p532 := eq_true p532; replace q532 := eq_true q532
          go_wp2
          go_ret
          exact ⟨by first | rfl | (simp [errW_none, errW_some] <;> rfl) | (simp only [← hji23]; first | rfl | (simp [errW_none, errW_some] <;> rfl)) | (simp [*, errW_none, errW_some] <;> rfl), upB HB.out⟩
        ·rw [if_neg c25] at H
         exact absurd H (by simp)
       ·rw [if_neg c24] at H
        exact absurd H (by simp)
      ·rw [if_neg c22] at H
       have c22b0 : decide (x20_2 < 6) = false := decide_eq_false c22
       clear c22
       obtain rfl := Option.some.inj H
       simp only [Option.some.injEq, Prod.mk.injEq] at H
       obtain ⟨rfl⟩ := H
       go_wp2
       go_ret
       exact ⟨by first | rfl | (simp [errW_none, errW_some] <;> rfl) | (simp [*, errW_none, errW_some] <;> rfl), upB HB.out⟩

end Go.Proofs.Ytpkokfffjgdjoaa.HFnBytes
