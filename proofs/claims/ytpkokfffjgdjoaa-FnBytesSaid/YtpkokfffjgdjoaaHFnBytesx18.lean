/- Functions of the program and what each call of them comes to, for the law FnBytes; written by a program of this session. No condition beyond those of each theorem. -/
import Derived.Test.YtpkokfffjgdjoaaHFnBytesx0
import Derived.Test.YtpkokfffjgdjoaaHFnBytesx21
import Derived.Test.YtpkokfffjgdjoaaHFnBytesx10
import Derived.Test.YtpkokfffjgdjoaaHFnBytesx16
namespace Go.Proofs.Ytpkokfffjgdjoaa.HFnBytes
open Go.RowKit Go.Proofs.YtpkokfffjgdjoaaW.PrintWords Go.Proofs.YtpkokfffjgdjoaaW.PrintLast Go.Proofs.YtpkokfffjgdjoaaW.PrintMore
attribute [local go_sem] max2_int min2_int max_two min_two max_three min_three max_four min_four   -- for this text's walks alone
open List renaming setIfInBounds_toArray → s1_, set_cons_zero → s2_, set_cons_succ → s3_
set_option linter.unusedVariables false
set_option linter.unusedSimpArgs false

/-! ### spec_GetCost: function 17 -/
def spec_GetCost.l0 : Nat → ByteArray → List Int → Int → Int → Int → Option (List Int × List Int × List Int × Bool)
 | 0, _, _, _, _, _ => none
 | k + 1, x0, x4, x5, x6, x7 => if x7 < (wrap64 ((wrap64 (2 * x6)) + (wrap64 (x6 * x6)))) then ((spec_l4Num.f k x0 x5).bind fun bt627 => (if bt627.2 < 0 then (some (([] : List Int), ([] : List Int), ([] : List Int), false)) else (if x4.length < 17592186044416 then (spec_GetCost.l0 k x0 (x4 ++ [bt627.1]) bt627.2 x6 (wrap64 (x7 + 1))) else (none)))) else ((some (([] : List Int) : List Int)).bind fun y632 => (if 0 ≤ x6 then (if x6 ≤ (x4.length : Int) then ((some (x4.take (x6 : Int).toNat : List Int)).bind fun y635 => (if y632.length + y635.length < 17592186044416 then ((some (y632 ++ y635 : List Int)).bind fun y639 => ((some (([] : List Int) : List Int)).bind fun y642 => (if x6 ≤ (wrap64 (2 * x6)) then (if (wrap64 (2 * x6)) ≤ (x4.length : Int) then ((some ((x4.take ((wrap64 (2 * x6)) : Int).toNat).drop (x6 : Int).toNat : List Int)).bind fun y645 => (if y642.length + y645.length < 17592186044416 then ((some (y642 ++ y645 : List Int)).bind fun y649 => ((some (([] : List Int) : List Int)).bind fun y652 => (if 0 ≤ (wrap64 (2 * x6)) then ((some (x4.drop ((wrap64 (2 * x6)) : Int).toNat : List Int)).bind fun y655 => (if y652.length + y655.length < 17592186044416 then ((some (y652 ++ y655 : List Int)).bind fun y659 => (if x5 = (x0.size : Int) then ((spec_CostOk.f k y639 y649 y659).bind fun t663 => (if t663 = true then (some (y639, y649, y659, true)) else (some (([] : List Int), ([] : List Int), ([] : List Int), false)))) else (some (([] : List Int), ([] : List Int), ([] : List Int), false)))) else (none))) else (none)))) else (none))) else (none)) else (none)))) else (none))) else (none)) else (none)))
def spec_GetCost.f (k : Nat) (a0 : ByteArray) : Option (List Int × List Int × List Int × Bool) := spec_GetCost.l0 k a0 (([] : List Int)) 0 6 0
theorem spec_GetCost.mono_l : ∀ k, (∀ y0 y1 y2 y3 y4, LeO (spec_GetCost.l0 k y0 y1 y2 y3 y4) (spec_GetCost.l0 (k + 1) y0 y1 y2 y3 y4))
 | 0 => fun _ _ _ _ _ r h => by simp [spec_GetCost.l0] at h
 | k + 1 => by
  have ih0 := spec_GetCost.mono_l k
  ·intro y0 y1 y2 y3 y4
   unfold spec_GetCost.l0
   repeat' first
   | (with_reducible exact ih0 _ _ _ _ _)
   | (with_reducible exact spec_CostOk.mono _ _ _ _)
   | (with_reducible exact spec_l4Num.mono _ _ _)
   | (with_reducible exact LeO.refl _)
   | (with_reducible exact LeO.none _)
   | (with_reducible refine LeO.ite ?_ ?_)
   | (with_reducible refine LeO.bind ?_ (fun _ => ?_))
   | exact ih0 _ _ _ _ _
   | exact spec_CostOk.mono _ _ _ _
   | exact spec_l4Num.mono _ _ _
   | exact LeO.none _
   | refine LeO.ite ?_ ?_
   | refine LeO.bind ?_ (fun _ => ?_)
theorem spec_GetCost.mono : ∀ a0 k, LeO (spec_GetCost.f k a0) (spec_GetCost.f (k + 1) a0) := by
 intro a0 k
 have ih0 := spec_GetCost.mono_l k
 unfold spec_GetCost.f
 repeat' first
   | (with_reducible exact ih0 _ _ _ _ _)
   | (with_reducible exact spec_CostOk.mono _ _ _ _)
   | (with_reducible exact spec_l4Num.mono _ _ _)
   | (with_reducible exact LeO.refl _)
   | (with_reducible exact LeO.none _)
   | (with_reducible refine LeO.ite ?_ ?_)
   | (with_reducible refine LeO.bind ?_ (fun _ => ?_))
   | exact ih0 _ _ _ _ _
   | exact spec_CostOk.mono _ _ _ _
   | exact spec_l4Num.mono _ _ _
   | exact LeO.none _
   | refine LeO.ite ?_ ?_
   | refine LeO.bind ?_ (fun _ => ?_)
theorem w12_ : wrap64 (2 * 6) = 12 := by decide +kernel
theorem w36_ : wrap64 (6 * 6) = 36 := by decide +kernel
theorem w48_ : wrap64 (12 + 36) = 48 := by decide +kernel
theorem w12b_ : wrap64 12 = 12 := by decide +kernel
attribute [local go_sem] w12b_
def spec_GetCost.T12 : Bool × List (List Nat × List Nat) := (true, [([], []), ([], []), ([], []), ([1, 2], [1, 2]), ([0, 3], [0, 3]), ([], []), ([], []), ([], []), ([], []), ([8], [8]), ([6, 7, 9], [6, 7, 9]), ([5, 10, 4], [5, 10]), ([], []), ([], []), ([], []), ([14], [14]), ([13, 15], [13, 15]), ([12, 16, 11], [12, 16]), ([4, 11, 17], [4, 11, 17]), ([], []), ([19, 18, 17, 0, 1, 2, 3, 4, 5, 6, 7, 8, 9, 10, 11, 12, 13, 14, 15, 16, 17, 18, 19], [18, 19])])
theorem spec_GetCost.tab12 : rtab .any (opsOf Try.f17 12) = spec_GetCost.T12 := by kernel_rfl
theorem spec_GetCost.rdy : ∀ c0 d0 c1 d1 c2 b : Bool, readyT spec_GetCost.T12.2 [c0, true, true, true, d0, c1, true, true, true, true, true, d1, c2, true, true, true, true, false, false, b, false] ≠ [] ∧ ∀ i ∈ readyT spec_GetCost.T12.2 [c0, true, true, true, d0, c1, true, true, true, true, true, d1, c2, true, true, true, true, false, false, b, false], (i = 0 ∧ c0 = false) ∨ (i = 4 ∧ d0 = false ∧ c0 = true) ∨ (i = 5 ∧ c1 = false) ∨ (i = 11 ∧ d1 = false ∧ d0 = true ∧ c1 = true) ∨ (i = 12 ∧ c2 = false) ∨ (i = 17 ∧ d1 = true ∧ c2 = true) ∨ (i = 19 ∧ b = false) := by
  intro c0 d0 c1 d1 c2 b
  cases c0 <;> cases d0 <;> cases c1 <;> cases d1 <;> cases c2 <;> cases b <;> decide
set_option maxHeartbeats 8000000 in
set_option maxRecDepth 100000 in
theorem spec_GetCost.calls (k : Nat) (a0 : ByteArray) (r1 : List Int) (r2 : List Int) (r3 : List Int) (r4 : Bool) (w : World) (h : spec_GetCost.f k a0 = some (r1, r2, r3, r4)) :
    Calls Try.prog 17 #[.string a0] w fun e w' => ∃ v0 v1 v2 : Value, e = .returned (.tuple #[.agg #[v0, v1, v2], .bool r4]) ∧ Kd.R (Kd.int .i64) 3 w' 0 (fun _ => True) v0 r1 ∧ Kd.R (Kd.int .i64) 3 w' 0 (fun _ => True) v1 r2 ∧ Kd.R (Kd.int .i64) 3 w' 0 (fun _ => True) v2 r3 ∧ Below w.heap.size w w' := by
  have hu35 := Try.underlying35
  have HB := Aside0.mk (Below.refl w.heap.size w)
  have H' := Aside0.mk h
  clear h
  go_enter Try.func17, Try.ntmps17
  go_wp2
  go_loopg [4, 5, 7] k (fun kq v4 v5 v7 w' => ∃ (l : List Int) (p i : Int), v5 = .int .i64 p ∧ v7 = .int .i64 i ∧ Aside0 (spec_GetCost.l0 kq a0 l p 6 i = some (r1, r2, r3, r4)) ∧ Aside0 (kq ≤ k) ∧ Aside0 (Kd.R (Kd.int .i64) 3 w' w.heap.size (fun _ => True) v4 l) ∧ Aside0 (w'.heap[w.heap.size]? = some (.cells #[.slice none 0 0, .slice none 0 0, .slice none 0 0] 35 (0, 0))) ∧ Aside0 (Below w.heap.size w w'))
  case atStart => exact ⟨[], 0, 0, rfl, rfl, H', ⟨Nat.le_refl _⟩, ⟨R_empty (by have h_ := blk_new (w.alloc (.cells #[.slice none 0 0, .slice none 0 0, .slice none 0 0] 35 (0, 0))) (.cells #[] 3 (0, 0)); simpa using h_) (by omega)⟩, ⟨blk_alloc (blk_new _ _) _⟩, ⟨upE⟩⟩
  case round =>
    clear H' HB
    obtain ⟨l, p, i, rfl, rfl, HA, HK1, HO, BK, HB⟩ := hrel
    cases gk with
    | zero => exact absurd HA.out (by simp [spec_GetCost.l0])
    | succ k1 =>
      have H := HA.out
      clear HA
      simp only [spec_GetCost.l0, w12_, w36_, w48_, Option.bind_some] at H
      by_cases c5 : i < 48
      · rw [if_pos c5] at H
        have c5b := decide_eq_true c5
        clear c5
        obtain ⟨⟨n, m⟩, A1, H⟩ := bindS H
        dsimp only at H
        replace A1 := Aside0.mk A1
        by_cases c7 : m < 0
        · rw [if_pos c7] at H
          have c7b := decide_eq_true c7
          clear c7
          obtain ⟨rfl, rfl, rfl, rfl⟩ : [] = r1 ∧ [] = r2 ∧ [] = r3 ∧ false = r4 := by simpa using H
          clear H
          go_wp2_with (first | (go_at_call 31; (with_reducible refine (spec_l4Num.calls k1 a0 p n _ _ A1.out).mono ?_); rintro e w1 ⟨rfl, hb⟩; have hE := Aside0.mk hb; clear hb) | ((with_reducible refine gate_store (t := 35) (p := 2) rfl ?_); refine store3 rfl rfl rfl rfl rfl (blk_below BK.out upE) ?_; intro w5 hW; have W5 := Aside0.mk hW; clear hW))
          refine bodyPost_ret (results_ct rfl _ _ w.heap.size 35 _ (0, 0) _ rfl W5.out.blk Try.underlying35 rfl (by kernel_rfl)) rfl ?_
          exact ⟨_, _, _, rfl, Kd.R_nil _ _ _ _ _, Kd.R_nil _ _ _ _ _, Kd.R_nil _ _ _ _ _, W5.out.below upE (Nat.le_refl _)⟩
        · rw [if_neg c7] at H
          have c7b := decide_eq_false c7
          clear c7
          by_cases c10 : l.length < 17592186044416
          · rw [if_pos c10] at H
            have H' := Aside0.mk H
            have LM := Aside0.mk c10
            clear H c10
            go_wp2_with (first
              | (go_at_call 31; (with_reducible refine (spec_l4Num.calls k1 a0 p n _ _ A1.out).mono ?_); rintro e w1 ⟨rfl, hb⟩; have hE := Aside0.mk hb; clear hb)
              | ((with_reducible refine gate_builtin (b := .append) (xs := #[.tmp 31, .tmp 33]) rfl ?_); at_builtin; refine Kd.R_append (Kd.int .i64) (w0 := w) w.heap.size rfl (.tmp 31) (.tmp 33) 33 3 (.int .i64 0) 8 rfl Try.underlying33 info3 rfl (by decide) (by omega) _ l n [.int .i64 n] (fun _ => True) (fun _ => False) rfl rfl rfl (fun _ hk => hk.elim) (fun _ _ => trivial) (Kd.R_below HO.out hE.out) (below_step HB.out hE.out) (below_size (below_step HB.out hE.out)) (by have := LM.out; omega) ?_; intro v w4 hO hb hg _; have HO1 := Aside0.mk hO; have BK1 := Aside0.mk (blk_grown (blk_below BK.out hE.out) hg (Kd.R_ne (Kd.R_below HO.out hE.out) (blk_below BK.out hE.out) (by decide))); have HB1 := Aside0.mk hb; clear hO hb hg))
            go_roundg k1
            case measure => have := HK1.out; omega
            case rel => exact ⟨l ++ [n], m, wrap64 (i + 1), rfl, rfl, H', ⟨by have := HK1.out; omega⟩, HO1, BK1, HB1⟩
          · rw [if_neg c10] at H; cases H
      · rw [if_neg c5] at H
        have c5b := decide_eq_false c5
        clear c5
        rw [if_pos (by decide)] at H
        by_cases c6 : 6 ≤ (l.length : Int)
        · rw [if_pos c6] at H
          simp only [List.length_nil, Nat.zero_add, List.nil_append, Option.bind_some] at H
          obtain ⟨t1, ht1⟩ : ∃ t, t = l.take 6 := ⟨_, rfl⟩
          obtain ⟨t2, ht2⟩ : ∃ t, t = (l.take 12).drop 6 := ⟨_, rfl⟩
          obtain ⟨t3, ht3⟩ : ∃ t, t = l.drop 12 := ⟨_, rfl⟩
          rw [show l.take (6 : Int).toNat = t1 from ht1.symm, show (l.take (12 : Int).toNat).drop (6 : Int).toNat = t2 from ht2.symm, show l.drop (12 : Int).toNat = t3 from ht3.symm] at H
          have e1 : t1.length ≤ 6 := by rw [ht1, List.length_take]; omega
          have e2 : t2.length ≤ 12 := by rw [ht2, List.length_drop, List.length_take]; omega
          rw [if_pos (by omega), if_pos (by decide)] at H
          by_cases c12 : 12 ≤ (l.length : Int)
          case neg => rw [if_neg c12] at H; cases H
          rw [if_pos c12, if_pos (by omega), if_pos (by decide)] at H
          by_cases c13 : t3.length < 17592186044416
          case neg => rw [if_neg c13] at H; cases H
          rw [if_pos c13] at H
          have HH := Aside0.mk H
          have LT := Aside0.mk c13
          clear H c13
          go_wp2
          obtain ⟨Al, cl, rfl⟩ := Kd.R_slice HO.out
          have hC := (Kd.R_reads' HO.out).2
          obtain ⟨B2, d2, B3, d3, hc1, hc2, hc3, hr1, hl1, hr2, hl2, hr3, hl3⟩ := cuts3 hC.2 hC.1 (by omega)
          rw [← ht1] at hc1 hr1 hl1
          rw [← ht2] at hc2 hr2 hl2
          rw [← ht3] at hc3 hr3 hl3
          have E1 := Aside0.mk e1
          have E2 := Aside0.mk e2
          clear hC c6 c12 ht1 ht2 ht3 hl1 hl2 hl3 e1 e2
          refine start_ (n := 21) (S := fun _ => True) (ds := []) (bits 21 0) (by kernel_rfl) rfl rfl trivial (fun hHeld => ?_)
          refine with_tab spec_GetCost.tab12 (fun HT_ => ?_)
          have HR1 := Aside0.mk (Kd.C_below hr1 (below_drew1 (Below.refl _ _)))
          have HR2 := Aside0.mk (Kd.C_below hr2 (below_drew1 (Below.refl _ _)))
          have HR3 := Aside0.mk (Kd.C_below hr3 (below_drew1 (Below.refl _ _)))
          have BK1 := Aside0.mk (blk_drew BK.out)
          have HB1 := Aside0.mk (below_drew1 HB.out)
          clear hr1 hr2 hr3 HO BK HB
          generalize wr.drew = w1 at HR1 HR2 HR3 BK1 HB1 ⊢
          refine purA 1 37 (bits 21 2) HT_.out ?_
          refine purA 2 38 (bits 21 6) HT_.out ?_
          refine purA 3 39 (bits 21 14) HT_.out ?_
          refine purA 6 42 (bits 21 78) HT_.out ?_
          refine purA 7 43 (bits 21 206) HT_.out ?_
          refine purA 8 44 (bits 21 462) HT_.out ?_
          refine purA 9 45 (bits 21 974) HT_.out ?_
          refine purA 10 46 (bits 21 1998) HT_.out ?_
          refine purA 13 49 (bits 21 10190) HT_.out ?_
          refine purA 14 50 (bits 21 26574) HT_.out ?_
          refine purA 15 51 (bits 21 59342) HT_.out ?_
          refine purA 16 52 (bits 21 124878) HT_.out ?_
          refine withAct (fun a1 ha1 => ?_)
          refine join_ (σ := Value × Value × Value × Value × Value × Value × Nat) 1 (bits 21 1048575) (fun s => [(36, s.1), (40, s.2.1), (41, s.2.2.1), (47, s.2.2.2.1), (48, s.2.2.2.2.1), (53, s.2.2.2.2.2.1), (10, .pointer (some ⟨s.2.2.2.2.2.2, 0, none⟩)), (54, .agg #[s.2.1, s.2.2.2.1, s.2.2.2.2.2.1])]) (fun s w2 => Kd.R (Kd.int .i64) 3 w2 0 (fun _ => True) s.2.1 t1 ∧ Kd.R (Kd.int .i64) 3 w2 0 (fun _ => True) s.2.2.2.1 t2 ∧ Kd.R (Kd.int .i64) 3 w2 0 (fun _ => True) s.2.2.2.2.2.1 t3 ∧ w2.heap[s.2.2.2.2.2.2]? = some (.cells #[.slice none 0 0, .slice none 0 0, .slice none 0 0] 35 (0, 0)) ∧ w1.heap.size ≤ s.2.2.2.2.2.2 ∧ Below w1.heap.size w1 w2) ?_ (fun hfin => ?_)
          · rintro ⟨u1, v1, u2, v2, u3, v3, g⟩ w2 ⟨h1, h2, h3, hg, hge, hb⟩
            have R1 := Aside0.mk h1
            have R2 := Aside0.mk h2
            have R3 := Aside0.mk h3
            have BG := Aside0.mk hg
            have GE := Aside0.mk hge
            have HE := Aside0.mk hb
            clear h1 h2 h3 hg hge hb HR1 HR2 HR3 hc1 hc2 hc3
            subst ha1
            simp only [putAll, Act.put, List.setIfInBounds_toArray, List.set_cons_zero, List.set_cons_succ]
            refine oneK 20 none (bits 21 2097151) HT_.out (fun K hK => ?_)
            obtain ⟨A1', c1', rfl⟩ := Kd.R_slice R1.out
            obtain ⟨A2', c2', rfl⟩ := Kd.R_slice R2.out
            obtain ⟨A3', c3', rfl⟩ := Kd.R_slice R3.out
            refine store3_step rfl rfl rfl rfl rfl BG.out ?_
            intro w3 hW
            have W3 := Aside0.mk hW
            clear hW
            refine hK _ _ ?_
            clear hK K
            refine done_ (done_of HT_.out (by kernel_rfl)) ?_
            have HB2 := Aside0.mk (W3.out.below (below_step HB1.out HE.out) (Nat.le_trans (below_size HB1.out) GE.out))
            have B2' := Aside0.mk (W3.out.far (Nat.ne_of_lt (Nat.lt_of_lt_of_le (blk_lt BK1.out) GE.out)) (blk_below BK1.out HE.out))
            have BG' := Aside0.mk W3.out.blk
            have S1 := Aside0.mk (W3.out.R R1.out)
            have S2 := Aside0.mk (W3.out.R R2.out)
            have S3 := Aside0.mk (W3.out.R R3.out)
            clear R1 R2 R3 BG HE W3 BK1 HB1 GE
            have H := HH.out
            clear HH
            by_cases cs : p = (a0.size : Int)
            · rw [if_pos cs] at H
              have cs1 : (p == (a0.size : Int)) = true := beq_iff_eq.mpr cs
              have cs2 : (p != (a0.size : Int)) = false := bne_eq_false_iff_eq.mpr cs
              clear cs
              obtain ⟨t4, A4, H⟩ := bindS H
              replace A4 := Aside0.mk A4
              cases t4 with
              | false =>
                obtain ⟨rfl, rfl, rfl, rfl⟩ : [] = r1 ∧ [] = r2 ∧ [] = r3 ∧ false = r4 := by simpa using H
                clear H
                go_wp2_with (first | ((with_reducible refine gate_dst (N := 60) rfl ?_); (try (refine gate_guard (by rfl) ?_; dsimp only)); refine load3 rfl rfl rfl rfl (blk_below BG'.out upE) ?_) | (go_at_call 18; (with_reducible refine (spec_CostOk.calls k1 _ _ _ _ _ _ _ _ _ _ _ (Kd.C_below (Kd.R_reads' S1.out).2.2 upE) (Kd.R_reads' S1.out).2.1 (Kd.C_below (Kd.R_reads' S2.out).2.2 upE) (Kd.R_reads' S2.out).2.1 (Kd.C_below (Kd.R_reads' S3.out).2.2 upE) (Kd.R_reads' S3.out).2.1 A4.out).mono ?_); rintro _ w4 ⟨rfl, hb⟩; have hE4 := Aside0.mk hb; clear hb) | ((with_reducible refine gate_store (t := 35) (p := 2) rfl ?_); refine store3 rfl rfl rfl rfl rfl (blk_below B2'.out upE) ?_; intro w5 hW; have W5 := Aside0.mk hW; clear hW))
                refine bodyPost_ret (results_ct rfl _ _ w.heap.size 35 _ (0, 0) _ rfl W5.out.blk Try.underlying35 rfl (by kernel_rfl)) rfl ?_
                exact ⟨_, _, _, rfl, Kd.R_nil _ _ _ _ _, Kd.R_nil _ _ _ _ _, Kd.R_nil _ _ _ _ _, W5.out.below upE (Nat.le_refl _)⟩
              | true =>
                obtain ⟨rfl, rfl, rfl, rfl⟩ : t1 = r1 ∧ t2 = r2 ∧ t3 = r3 ∧ true = r4 := by simpa using H
                clear H
                go_wp2_with (first | ((with_reducible refine gate_dst (N := 60) rfl ?_); (try (refine gate_guard (by rfl) ?_; dsimp only)); refine load3 rfl rfl rfl rfl (blk_below BG'.out upE) ?_) | (go_at_call 18; (with_reducible refine (spec_CostOk.calls k1 _ _ _ _ _ _ _ _ _ _ _ (Kd.C_below (Kd.R_reads' S1.out).2.2 upE) (Kd.R_reads' S1.out).2.1 (Kd.C_below (Kd.R_reads' S2.out).2.2 upE) (Kd.R_reads' S2.out).2.1 (Kd.C_below (Kd.R_reads' S3.out).2.2 upE) (Kd.R_reads' S3.out).2.1 A4.out).mono ?_); rintro _ w4 ⟨rfl, hb⟩; have hE4 := Aside0.mk hb; clear hb) | ((with_reducible refine gate_dst (N := 65) rfl ?_); (try (refine gate_guard (by rfl) ?_; dsimp only)); refine load3 rfl rfl rfl rfl (blk_below BG'.out upE) ?_) | ((with_reducible refine gate_store (t := 35) (p := 2) rfl ?_); refine store3 rfl rfl rfl rfl rfl (blk_below B2'.out upE) ?_; intro w5 hW; have W5 := Aside0.mk hW; clear hW))
                refine bodyPost_ret (results_ct rfl _ _ w.heap.size 35 _ (0, 0) _ rfl W5.out.blk Try.underlying35 rfl (by kernel_rfl)) rfl ?_
                exact ⟨_, _, _, rfl, W5.out.R (Kd.R_below S1.out upE), W5.out.R (Kd.R_below S2.out upE), W5.out.R (Kd.R_below S3.out upE), W5.out.below upE (Nat.le_refl _)⟩
            · rw [if_neg cs] at H
              have cs1 : (p == (a0.size : Int)) = false := beq_eq_false_iff_ne.mpr cs
              have cs2 : (p != (a0.size : Int)) = true := bne_iff_ne.mpr cs
              clear cs
              obtain ⟨rfl, rfl, rfl, rfl⟩ : [] = r1 ∧ [] = r2 ∧ [] = r3 ∧ false = r4 := by simpa using H
              clear H
              go_wp2_with ((with_reducible refine gate_store (t := 35) (p := 2) rfl ?_); refine store3 rfl rfl rfl rfl rfl (blk_below B2'.out upE) ?_; intro w5 hW; have W5 := Aside0.mk hW; clear hW)
              refine bodyPost_ret (results_ct rfl _ _ w.heap.size 35 _ (0, 0) _ rfl W5.out.blk Try.underlying35 rfl (by kernel_rfl)) rfl ?_
              exact ⟨_, _, _, rfl, Kd.R_nil _ _ _ _ _, Kd.R_nil _ _ _ _ _, Kd.R_nil _ _ _ _ _, W5.out.below upE (Nat.le_refl _)⟩
          · refine inv_ (I := fun n l' a w2 => ∃ (c0 d0 c1 d1 c2 d2 b : Bool) (v36 v40 v41 v47 v48 v53 v10 : Value), l' = #[c0, true, true, true, d0, c1, true, true, true, true, true, d1, c2, true, true, true, true, d2, false, b, false] ∧ n + (c0.toNat + d0.toNat + c1.toNat + d1.toNat + c2.toNat + d2.toNat + b.toNat) = 9 ∧ a = putAll a1 [(36, v36), (40, v40), (41, v41), (47, v47), (48, v48), (53, v53), (10, v10)] ∧ Below w1.heap.size w1 w2 ∧ (c0 = true → ∃ g, v36 = .slice (some ⟨g, 0, none⟩) 0 0 ∧ w2.heap[g]? = some (.cells #[] 3 (0, 0))) ∧ (c1 = true → ∃ g, v41 = .slice (some ⟨g, 0, none⟩) 0 0 ∧ w2.heap[g]? = some (.cells #[] 3 (0, 0))) ∧ (c2 = true → ∃ g, v48 = .slice (some ⟨g, 0, none⟩) 0 0 ∧ w2.heap[g]? = some (.cells #[] 3 (0, 0))) ∧ (d0 = true → c0 = true ∧ Kd.R (Kd.int .i64) 3 w2 0 (fun _ => True) v40 t1) ∧ (d1 = true → d0 = true ∧ c1 = true ∧ Kd.R (Kd.int .i64) 3 w2 0 (fun _ => True) v47 t2) ∧ (d2 = true → d1 = true ∧ c2 = true ∧ Kd.R (Kd.int .i64) 3 w2 0 (fun _ => True) v53 t3) ∧ (b = true → ∃ g, v10 = .pointer (some ⟨g, 0, none⟩) ∧ w2.heap[g]? = some (.cells #[.slice none 0 0, .slice none 0 0, .slice none 0 0] 35 (0, 0)) ∧ w1.heap.size ≤ g)) HT_.out ?_ _ _ _ _ ⟨false, false, false, false, false, false, false, a1.tmps.getD 36 undef, a1.tmps.getD 40 undef, a1.tmps.getD 41 undef, a1.tmps.getD 47 undef, a1.tmps.getD 48 undef, a1.tmps.getD 53 undef, a1.tmps.getD 10 undef, by kernel_rfl, rfl, by subst ha1; rfl, Below.refl _ _, by simp, by simp, by simp, by simp, by simp, by simp, by simp⟩
            rintro n l' a w2 ⟨c0, d0, c1, d1, c2, d2, b, v36, v40, v41, v47, v48, v53, v10, rfl, hn, rfl, hB, k0, k1, k2, h0, h1, h2, hb⟩
            cases d2 with
            | true =>
              left
              obtain ⟨rfl, rfl, g3⟩ := h2 rfl
              obtain ⟨rfl, rfl, g2⟩ := h1 rfl
              obtain ⟨rfl, g1⟩ := h0 rfl
              clear h0 h1 h2 k0 k1 k2
              obtain ⟨X1, y1, rfl⟩ := Kd.R_slice g1
              obtain ⟨X2, y2, rfl⟩ := Kd.R_slice g2
              obtain ⟨X3, y3, rfl⟩ := Kd.R_slice g3
              cases b with
              | true =>
                obtain ⟨g, rfl, hg, hge⟩ := hb rfl
                obtain rfl : n = 2 := by simpa using hn
                have hF := hfin ⟨v36, _, v41, _, v48, _, g⟩ w2 ⟨g1, g2, g3, hg, hge, hB⟩
                subst ha1
                clear hfin
                simp only [putAll, Act.put, List.setIfInBounds_toArray, List.set_cons_zero, List.set_cons_succ] at hF ⊢
                refine purA 18 54 (bits 21 1048575) HT_.out ?_
                exact hF
              | false =>
                obtain rfl : n = 3 := by simpa using hn
                have hF := hfin ⟨v36, _, v41, _, v48, _, w2.heap.size⟩ (w2.alloc (.cells #[.slice none 0 0, .slice none 0 0, .slice none 0 0] 35 (0, 0))) ⟨Kd.R_alloc g1 _, Kd.R_alloc g2 _, Kd.R_alloc g3 _, blk_new _ _, below_size hB, below_alloc hB _⟩
                subst ha1
                clear hfin
                simp only [putAll, Act.put, List.setIfInBounds_toArray, List.set_cons_zero, List.set_cons_succ] at hF ⊢
                refine purA 18 54 (bits 21 524287) HT_.out ?_
                refine oneV 19 10 (bits 21 1048575) HT_.out ?_
                exact hF
            | false =>
              right
              clear hfin h2
              obtain ⟨hne, hall⟩ := spec_GetCost.rdy c0 d0 c1 d1 c2 b
              refine ⟨n - 1, by have := Bool.toNat_le c0; have := Bool.toNat_le d0; have := Bool.toNat_le c1; have := Bool.toNat_le d1; have := Bool.toNat_le c2; have := Bool.toNat_le b; simp only [Bool.toNat_true, Bool.toNat_false] at hn; omega, hne, fun i hi => ?_⟩
              rcases hall i hi with ⟨rfl, rfl⟩ | ⟨rfl, rfl, rfl⟩ | ⟨rfl, rfl⟩ | ⟨rfl, rfl, rfl, rfl⟩ | ⟨rfl, rfl⟩ | ⟨rfl, rfl, rfl⟩ | ⟨rfl, rfl⟩
              · subst ha1
                simp only [putAll, Act.put, List.setIfInBounds_toArray, List.set_cons_zero, List.set_cons_succ]
                refine wpOp_step (i := 0) rfl (fun K hK => ?_)
                refine evN 36 (by rfl) rfl (w1 := w2.alloc (.cells #[] 3 (0, 0))) (v := .slice (some ⟨w2.heap.size, 0, none⟩) 0 0) (by go_simp; first | done | rfl | (constructor <;> rfl)) ?_
                exact hK _ _ ⟨fun _ _ => trivial, true, d0, c1, d1, c2, false, b, .slice (some ⟨w2.heap.size, 0, none⟩) 0 0, v40, v41, v47, v48, v53, v10, rfl, by have := Bool.toNat_le d0; have := Bool.toNat_le c1; have := Bool.toNat_le d1; have := Bool.toNat_le c2; have := Bool.toNat_le b; simp only [Bool.toNat_true, Bool.toNat_false] at hn ⊢; omega, by simp only [putAll, Act.put, List.setIfInBounds_toArray, List.set_cons_zero, List.set_cons_succ], below_alloc hB _, fun _ => ⟨_, rfl, blk_new _ _⟩, fun h => by obtain ⟨g, e, hg⟩ := k1 h; exact ⟨g, e, blk_alloc (hg) _⟩, fun h => by obtain ⟨g, e, hg⟩ := k2 h; exact ⟨g, e, blk_alloc (hg) _⟩, fun h => ⟨rfl, Kd.R_alloc (h0 h).2 _⟩, fun h => ⟨(h1 h).1, (h1 h).2.1, Kd.R_alloc ((h1 h).2.2) _⟩, fun h => (nomatch h), fun h => by obtain ⟨g, e, hg, hge⟩ := hb h; exact ⟨g, e, blk_alloc (hg) _, hge⟩⟩
              · obtain ⟨g, rfl, hg⟩ := k0 rfl
                subst ha1
                simp only [putAll, Act.put, List.setIfInBounds_toArray, List.set_cons_zero, List.set_cons_succ]
                refine wpOp_step (i := 4) rfl (fun K hK => ?_)
                refine app0_step 40 rfl (by rfl) rfl rfl rfl hg (Kd.C_below HR1.out hB) (by have := E1.out; omega) (fun v w4 ho hb' => ?_)
                exact hK _ _ ⟨fun _ _ => trivial, true, true, c1, d1, c2, false, b, .slice (some ⟨g, 0, none⟩) 0 0, v, v41, v47, v48, v53, v10, rfl, by have := Bool.toNat_le c1; have := Bool.toNat_le d1; have := Bool.toNat_le c2; have := Bool.toNat_le b; simp only [Bool.toNat_true, Bool.toNat_false] at hn ⊢; omega, by simp only [putAll, Act.put, List.setIfInBounds_toArray, List.set_cons_zero, List.set_cons_succ], below_step hB hb', fun _ => ⟨_, rfl, blk_below hg hb'⟩, fun h => by obtain ⟨g, e, hg⟩ := k1 h; exact ⟨g, e, blk_below (hg) hb'⟩, fun h => by obtain ⟨g, e, hg⟩ := k2 h; exact ⟨g, e, blk_below (hg) hb'⟩, fun _ => ⟨rfl, ho⟩, fun h => ⟨rfl, (h1 h).2.1, Kd.R_below (h1 h).2.2 hb'⟩, fun h => (nomatch h), fun h => by obtain ⟨g, e, hg, hge⟩ := hb h; exact ⟨g, e, blk_below (hg) hb', hge⟩⟩
              · subst ha1
                simp only [putAll, Act.put, List.setIfInBounds_toArray, List.set_cons_zero, List.set_cons_succ]
                refine wpOp_step (i := 5) rfl (fun K hK => ?_)
                refine evN 41 (by rfl) rfl (w1 := w2.alloc (.cells #[] 3 (0, 0))) (v := .slice (some ⟨w2.heap.size, 0, none⟩) 0 0) (by go_simp; first | done | rfl | (constructor <;> rfl)) ?_
                exact hK _ _ ⟨fun _ _ => trivial, c0, d0, true, d1, c2, false, b, v36, v40, .slice (some ⟨w2.heap.size, 0, none⟩) 0 0, v47, v48, v53, v10, rfl, by have := Bool.toNat_le c0; have := Bool.toNat_le d0; have := Bool.toNat_le d1; have := Bool.toNat_le c2; have := Bool.toNat_le b; simp only [Bool.toNat_true, Bool.toNat_false] at hn ⊢; omega, by simp only [putAll, Act.put, List.setIfInBounds_toArray, List.set_cons_zero, List.set_cons_succ], below_alloc hB _, fun h => by obtain ⟨g, e, hg⟩ := k0 h; exact ⟨g, e, blk_alloc (hg) _⟩, fun _ => ⟨_, rfl, blk_new _ _⟩, fun h => by obtain ⟨g, e, hg⟩ := k2 h; exact ⟨g, e, blk_alloc (hg) _⟩, fun h => ⟨(h0 h).1, Kd.R_alloc ((h0 h).2) _⟩, fun h => ⟨(h1 h).1, rfl, Kd.R_alloc (h1 h).2.2 _⟩, fun h => (nomatch h), fun h => by obtain ⟨g, e, hg, hge⟩ := hb h; exact ⟨g, e, blk_alloc (hg) _, hge⟩⟩
              · obtain ⟨g, rfl, hg⟩ := k1 rfl
                subst ha1
                simp only [putAll, Act.put, List.setIfInBounds_toArray, List.set_cons_zero, List.set_cons_succ]
                refine wpOp_step (i := 11) rfl (fun K hK => ?_)
                refine app0_step 47 rfl (by rfl) rfl rfl rfl hg (Kd.C_below HR2.out hB) (by have := E2.out; omega) (fun v w4 ho hb' => ?_)
                exact hK _ _ ⟨fun _ _ => trivial, c0, true, true, true, c2, false, b, v36, v40, .slice (some ⟨g, 0, none⟩) 0 0, v, v48, v53, v10, rfl, by have := Bool.toNat_le c0; have := Bool.toNat_le c2; have := Bool.toNat_le b; simp only [Bool.toNat_true, Bool.toNat_false] at hn ⊢; omega, by simp only [putAll, Act.put, List.setIfInBounds_toArray, List.set_cons_zero, List.set_cons_succ], below_step hB hb', fun h => by obtain ⟨g, e, hg⟩ := k0 h; exact ⟨g, e, blk_below (hg) hb'⟩, fun _ => ⟨_, rfl, blk_below hg hb'⟩, fun h => by obtain ⟨g, e, hg⟩ := k2 h; exact ⟨g, e, blk_below (hg) hb'⟩, fun h => ⟨(h0 h).1, Kd.R_below ((h0 h).2) hb'⟩, fun _ => ⟨rfl, rfl, ho⟩, fun h => (nomatch h), fun h => by obtain ⟨g, e, hg, hge⟩ := hb h; exact ⟨g, e, blk_below (hg) hb', hge⟩⟩
              · subst ha1
                simp only [putAll, Act.put, List.setIfInBounds_toArray, List.set_cons_zero, List.set_cons_succ]
                refine wpOp_step (i := 12) rfl (fun K hK => ?_)
                refine evN 48 (by rfl) rfl (w1 := w2.alloc (.cells #[] 3 (0, 0))) (v := .slice (some ⟨w2.heap.size, 0, none⟩) 0 0) (by go_simp; first | done | rfl | (constructor <;> rfl)) ?_
                exact hK _ _ ⟨fun _ _ => trivial, c0, d0, c1, d1, true, false, b, v36, v40, v41, v47, .slice (some ⟨w2.heap.size, 0, none⟩) 0 0, v53, v10, rfl, by have := Bool.toNat_le c0; have := Bool.toNat_le d0; have := Bool.toNat_le c1; have := Bool.toNat_le d1; have := Bool.toNat_le b; simp only [Bool.toNat_true, Bool.toNat_false] at hn ⊢; omega, by simp only [putAll, Act.put, List.setIfInBounds_toArray, List.set_cons_zero, List.set_cons_succ], below_alloc hB _, fun h => by obtain ⟨g, e, hg⟩ := k0 h; exact ⟨g, e, blk_alloc (hg) _⟩, fun h => by obtain ⟨g, e, hg⟩ := k1 h; exact ⟨g, e, blk_alloc (hg) _⟩, fun _ => ⟨_, rfl, blk_new _ _⟩, fun h => ⟨(h0 h).1, Kd.R_alloc ((h0 h).2) _⟩, fun h => ⟨(h1 h).1, (h1 h).2.1, Kd.R_alloc ((h1 h).2.2) _⟩, fun h => (nomatch h), fun h => by obtain ⟨g, e, hg, hge⟩ := hb h; exact ⟨g, e, blk_alloc (hg) _, hge⟩⟩
              · obtain ⟨g, rfl, hg⟩ := k2 rfl
                subst ha1
                simp only [putAll, Act.put, List.setIfInBounds_toArray, List.set_cons_zero, List.set_cons_succ]
                refine wpOp_step (i := 17) rfl (fun K hK => ?_)
                refine app0_step 53 rfl (by rfl) rfl rfl rfl hg (Kd.C_below HR3.out hB) LT.out (fun v w4 ho hb' => ?_)
                exact hK _ _ ⟨fun _ _ => trivial, c0, d0, c1, true, true, true, b, v36, v40, v41, v47, .slice (some ⟨g, 0, none⟩) 0 0, v, v10, rfl, by have := Bool.toNat_le c0; have := Bool.toNat_le d0; have := Bool.toNat_le c1; have := Bool.toNat_le b; simp only [Bool.toNat_true, Bool.toNat_false] at hn ⊢; omega, by simp only [putAll, Act.put, List.setIfInBounds_toArray, List.set_cons_zero, List.set_cons_succ], below_step hB hb', fun h => by obtain ⟨g, e, hg⟩ := k0 h; exact ⟨g, e, blk_below (hg) hb'⟩, fun h => by obtain ⟨g, e, hg⟩ := k1 h; exact ⟨g, e, blk_below (hg) hb'⟩, fun _ => ⟨_, rfl, blk_below hg hb'⟩, fun h => ⟨(h0 h).1, Kd.R_below ((h0 h).2) hb'⟩, fun h => ⟨(h1 h).1, (h1 h).2.1, Kd.R_below ((h1 h).2.2) hb'⟩, fun _ => ⟨rfl, rfl, ho⟩, fun h => by obtain ⟨g, e, hg, hge⟩ := hb h; exact ⟨g, e, blk_below (hg) hb', hge⟩⟩
              · subst ha1
                simp only [putAll, Act.put, List.setIfInBounds_toArray, List.set_cons_zero, List.set_cons_succ]
                refine wpOp_step (i := 19) rfl (fun K hK => ?_)
                refine evN 10 (by rfl) rfl (w1 := w2.alloc (.cells #[.slice none 0 0, .slice none 0 0, .slice none 0 0] 35 (0, 0))) (v := .pointer (some ⟨w2.heap.size, 0, none⟩)) (by go_simp; first | done | rfl | (constructor <;> rfl)) ?_
                exact hK _ _ ⟨fun _ _ => trivial, c0, d0, c1, d1, c2, false, true, v36, v40, v41, v47, v48, v53, .pointer (some ⟨w2.heap.size, 0, none⟩), rfl, by have := Bool.toNat_le c0; have := Bool.toNat_le d0; have := Bool.toNat_le c1; have := Bool.toNat_le d1; have := Bool.toNat_le c2; simp only [Bool.toNat_true, Bool.toNat_false] at hn ⊢; omega, by simp only [putAll, Act.put, List.setIfInBounds_toArray, List.set_cons_zero, List.set_cons_succ], below_alloc hB _, fun h => by obtain ⟨g, e, hg⟩ := k0 h; exact ⟨g, e, blk_alloc (hg) _⟩, fun h => by obtain ⟨g, e, hg⟩ := k1 h; exact ⟨g, e, blk_alloc (hg) _⟩, fun h => by obtain ⟨g, e, hg⟩ := k2 h; exact ⟨g, e, blk_alloc (hg) _⟩, fun h => ⟨(h0 h).1, Kd.R_alloc ((h0 h).2) _⟩, fun h => ⟨(h1 h).1, (h1 h).2.1, Kd.R_alloc ((h1 h).2.2) _⟩, fun h => (nomatch h), fun _ => ⟨_, rfl, blk_new _ _, below_size hB⟩⟩
        · rw [if_neg c6] at H; cases H


end Go.Proofs.Ytpkokfffjgdjoaa.HFnBytes
