/- Functions of the program and what each call of them comes to, for the law FnBytes; written by a program of this session. No condition beyond those of each theorem. -/
import Derived.Test.YtpkokfffjgdjoaaHFnBytesx0
import Derived.Test.YtpkokfffjgdjoaaHFnBytesx5
namespace Go.Proofs.Ytpkokfffjgdjoaa.HFnBytes
open Go.RowKit Go.Proofs.YtpkokfffjgdjoaaW.PrintWords Go.Proofs.YtpkokfffjgdjoaaW.PrintLast Go.Proofs.YtpkokfffjgdjoaaW.PrintMore
attribute [local go_sem] max2_int min2_int max_two min_two max_three min_three max_four min_four   -- for this text's walks alone
open List renaming setIfInBounds_toArray → s1_, set_cons_zero → s2_, set_cons_succ → s3_
set_option linter.unusedVariables false
set_option linter.unusedSimpArgs false

/-! ### spec_TreeOk: function 8 -/
def spec_TreeOk.l0 : Nat → List (S46) → Int → Option (Bool)
 | 0, _, _ => none
 | k + 1, x0, x3 => if x3 < (x0.length : Int) then (if 0 ≤ x3 then ((spec_LabelOk.f ((rd_T46 x0 x3).f0)).bind fun t288 => (if t288 = true then ((spec_l1In.f ((rd_T46 x0 x3).f1) 0 12).bind fun t290 => (if t290 = true then (if ((((rd_T46 x0 x3).f1) == 0) != (x3 == 0)) = true then (some false) else (if x3 > 0 then (if 0 ≤ (wrap64 (x3 - 1)) then (if (wrap64 (x3 - 1)) < (x0.length : Int) then (if ((rd_T46 x0 x3).f1) > (wrap64 (((rd_T46 x0 (wrap64 (x3 - 1))).f1) + 1)) then (some false) else (spec_TreeOk.l0 k x0 (wrap64 (x3 + 1)))) else (none)) else (none)) else (spec_TreeOk.l0 k x0 (wrap64 (x3 + 1))))) else (some false))) else (some false))) else (none)) else ((spec_l1In.f (x0.length : Int) 1 24).bind fun t286 => (some t286))
def spec_TreeOk.f (k : Nat) (l0 : List (S46)) : Option (Bool) := spec_TreeOk.l0 k l0 0
theorem spec_TreeOk.mono_l : ∀ k, (∀ y0 y1, LeO (spec_TreeOk.l0 k y0 y1) (spec_TreeOk.l0 (k + 1) y0 y1))
 | 0 => fun _ _ r h => by simp [spec_TreeOk.l0] at h
 | k + 1 => by
  have ih0 := spec_TreeOk.mono_l k
  ·intro y0 y1
   unfold spec_TreeOk.l0
   repeat' first
   | (with_reducible exact ih0 _ _)
   | (with_reducible exact LeO.refl _)
   | (with_reducible exact LeO.none _)
   | (with_reducible refine LeO.ite ?_ ?_)
   | (with_reducible refine LeO.bind ?_ (fun _ => ?_))
   | exact ih0 _ _
   | exact LeO.none _
   | refine LeO.ite ?_ ?_
   | refine LeO.bind ?_ (fun _ => ?_)
theorem spec_TreeOk.mono : ∀ a0 k, LeO (spec_TreeOk.f k a0) (spec_TreeOk.f (k + 1) a0) := by
 intro a0 k
 have ih0 := spec_TreeOk.mono_l k
 unfold spec_TreeOk.f
 repeat' first
   | (with_reducible exact ih0 _ _)
   | (with_reducible exact LeO.refl _)
   | (with_reducible exact LeO.none _)
   | (with_reducible refine LeO.ite ?_ ?_)
   | (with_reducible refine LeO.bind ?_ (fun _ => ?_))
   | exact ih0 _ _
   | exact LeO.none _
   | refine LeO.ite ?_ ?_
   | refine LeO.bind ?_ (fun _ => ?_)
set_option maxHeartbeats 8000000 in
set_option maxRecDepth 100000 in
theorem spec_TreeOk.calls (k : Nat) (A0 : Option Addr) (c0 : Nat) (l0 : List (S46)) (r : Bool) (w : World) (hr0 : Kd.C k46 w A0 l0.length l0) (hc0 : l0.length ≤ c0) (h : spec_TreeOk.f k l0 = some r) :
  Calls Try.prog 8 #[.slice A0 l0.length c0] w fun e w' => e = .returned (.bool r) ∧ Below w.heap.size w w' := by
 have HR0 := Aside0.mk hr0; have HC0 := Aside0.mk hc0; clear hr0 hc0; have HB := Aside0.mk (Below.refl w.heap.size w)
 have H : (spec_TreeOk.l0 k l0 0) = some r := h
 clear h; have H' := Aside0.mk H; clear H
 go_enter Try.func8, Try.ntmps8
 go_wp2
 go_loopg [3] k (fun kq v3 w' => ∃ (x3_1 : Int), v3 = .int .i64 x3_1 ∧ Aside0 (spec_TreeOk.l0 kq l0 x3_1 = some r) ∧ Aside0 (kq ≤ k) ∧ Aside0 (Below w.heap.size w w'))
 case atStart => exact ⟨(0), (by first | rfl | (simp; done) | (simp [*]; done)), H', ⟨Nat.le_refl _⟩, ⟨by repeat (first | exact HB.out | apply below_alloc | apply pw_below_drewN | apply below_drew1)⟩⟩
 case round =>
  clear H'
  obtain ⟨x3_1, rfl, HA, HK1, HB⟩ := hrel
  cases gk with
  | zero => exact absurd HA.out (by simp [spec_TreeOk.l0])
  | succ k1 =>
   have H := HA.out; clear HA
   simp only [spec_TreeOk.l0] at H
   by_cases c2 : x3_1 < (l0.length : Int)
   · rw [if_pos c2] at H
     have c2b0 : decide (x3_1 < (l0.length : Int)) = true := decide_eq_true c2
     by_cases c3 : 0 ≤ x3_1
     · rw [if_pos c3] at H
       have c3b0 : decide (0 ≤ x3_1) = true := decide_eq_true c3
       obtain ⟨t1, A1, H⟩ := bindS H
       replace A1 := Aside0.mk A1
       have hC := Kd.C_below HR0.out HB.out
       obtain ⟨ad, rfl, hx0, hx1⟩ := at_T46 hC x3_1 c3 c2
       replace c2 := eq_true c2
       replace c3 := eq_true c3
       cases t1 with
       | false =>
         obtain rfl := Option.some.inj H
         clear H hC
         go_wp2
         go_quiet ((go_at_call 28; exact quietS (spec_LabelOk.calls _ false _ A1.out)))
         go_wp2
         go_ret
         exact ⟨rfl, upB HB.out⟩
       | true =>
         obtain ⟨t2, A2, H⟩ := bindS H
         replace A2 := Aside0.mk A2
         cases t2 with
         | false =>
           obtain rfl := Option.some.inj H
           clear H hC
           go_wp2
           go_quiet ((first | (go_at_call 28; exact quietS (spec_LabelOk.calls _ true _ A1.out)) | (go_at_call 29; exact quietS (spec_l1In.calls _ _ _ false _ A2.out))))
           go_wp2
           go_ret
           exact ⟨rfl, upB HB.out⟩
         | true =>
           simp only [if_true] at H
           by_cases c8 : ((((rd_T46 l0 x3_1).f1) == 0) != (x3_1 == 0)) = true
           · rw [if_pos c8] at H
             obtain rfl := Option.some.inj H
             have c8b : ((((rd_T46 l0 x3_1).f1) == 0) == (x3_1 == 0)) = false := by simpa using c8
             have c8c : ¬ ((((rd_T46 l0 x3_1).f1) == 0) = (x3_1 == 0)) := by simpa using c8
             have c8d := decide_eq_false c8c
             clear H hC
             go_wp2
             go_quiet ((first | (go_at_call 28; exact quietS (spec_LabelOk.calls _ true _ A1.out)) | (go_at_call 29; exact quietS (spec_l1In.calls _ _ _ true _ A2.out))))
             go_wp2
             go_ret
             exact ⟨rfl, upB HB.out⟩
           · rw [if_neg c8] at H
             replace c8 := Bool.eq_false_iff.mpr c8
             have c8b : ((((rd_T46 l0 x3_1).f1) == 0) == (x3_1 == 0)) = true := by simpa using c8
             by_cases c9 : x3_1 > 0
             · rw [if_pos c9] at H
               have c9b : decide (x3_1 > 0) = true := decide_eq_true c9
               obtain ⟨y, hy⟩ : ∃ y, y = wrap64 (x3_1 - 1) := ⟨_, rfl⟩
               obtain ⟨z, hz⟩ : ∃ z, z = wrap64 ((rd_T46 l0 y).f1 + 1) := ⟨_, rfl⟩
               rw [← hy, ← hz] at H
               replace hy : IntKind.i64.wrap (x3_1 - 1) = y := (i64_w _).trans hy.symm
               replace hz : IntKind.i64.wrap ((rd_T46 l0 y).f1 + 1) = z := (i64_w _).trans hz.symm
               by_cases d1 : 0 ≤ y
               · by_cases d2 : y < (l0.length : Int)
                 · rw [if_pos d1, if_pos d2] at H
                   obtain ⟨_, e_, hy0, hy1⟩ := at_T46 hC y d1 d2
                   obtain rfl := Option.some.inj e_
                   clear hC
                   replace d1 := eq_true d1
                   replace d2 := eq_true d2
                   by_cases c10 : (rd_T46 l0 x3_1).f1 > z
                   · rw [if_pos c10] at H
                     have c10b : decide ((rd_T46 l0 x3_1).f1 > z) = true := decide_eq_true c10
                     obtain rfl := Option.some.inj H
                     clear H
                     go_wp2
                     go_quiet ((first | (go_at_call 28; exact quietS (spec_LabelOk.calls _ true _ A1.out)) | (go_at_call 29; exact quietS (spec_l1In.calls _ _ _ true _ A2.out))))
                     go_wp2
                     go_ret
                     exact ⟨rfl, upB HB.out⟩
                   · rw [if_neg c10] at H
                     have c10b : decide ((rd_T46 l0 x3_1).f1 > z) = false := decide_eq_false c10
                     have H' := Aside0.mk H
                     clear H
                     go_wp2
                     go_quiet ((first | (go_at_call 28; exact quietS (spec_LabelOk.calls _ true _ A1.out)) | (go_at_call 29; exact quietS (spec_l1In.calls _ _ _ true _ A2.out))))
                     go_wp2
                     go_roundg k1
                     case measure => have := HK1.out; omega
                     case rel => exact ⟨_, rfl, H', ⟨by have := HK1.out; omega⟩, ⟨upB HB.out⟩⟩
                 · rw [if_pos d1, if_neg d2] at H; cases H
               · rw [if_neg d1] at H; cases H
             · rw [if_neg c9] at H
               have c9b : decide (x3_1 > 0) = false := decide_eq_false c9
               have H' := Aside0.mk H
               clear H hC
               go_wp2
               go_quiet ((first | (go_at_call 28; exact quietS (spec_LabelOk.calls _ true _ A1.out)) | (go_at_call 29; exact quietS (spec_l1In.calls _ _ _ true _ A2.out))))
               go_wp2
               go_roundg k1
               case measure => have := HK1.out; omega
               case rel => exact ⟨_, rfl, H', ⟨by have := HK1.out; omega⟩, ⟨upB HB.out⟩⟩
     · rw [if_neg c3] at H; cases H
   · rw [if_neg c2] at H
     have c2b0 : decide (x3_1 < (l0.length : Int)) = false := decide_eq_false c2
     clear c2
     obtain ⟨t2, A2, H⟩ := bindS H
     replace A2 := Aside0.mk A2
     obtain rfl := Option.some.inj H
     clear H
     go_wp2_with (go_at_call 29; (with_reducible refine (spec_l1In.calls _ _ _ _ _ A2.out).mono ?_); rintro _ _ ⟨rfl, ⟨nd, rfl⟩⟩)
     go_ret
     exact ⟨rfl, upB HB.out⟩


end Go.Proofs.Ytpkokfffjgdjoaa.HFnBytes
