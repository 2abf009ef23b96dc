/- Functions of the program and what each call of them comes to, for the law FnBytes; written by a program of this session. No condition beyond those of each theorem. -/
import Derived.Test.YtpkokfffjgdjoaaHFnBytesx0
import Derived.Test.YtpkokfffjgdjoaaHFnBytesx21
import Derived.Test.YtpkokfffjgdjoaaHFnBytesx4
import Derived.Test.YtpkokfffjgdjoaaHFnBytesx13
import Derived.Test.YtpkokfffjgdjoaaHFnBytesx14
namespace Go.Proofs.Ytpkokfffjgdjoaa.HFnBytes
open Go.RowKit Go.Proofs.YtpkokfffjgdjoaaW.PrintWords Go.Proofs.YtpkokfffjgdjoaaW.PrintLast Go.Proofs.YtpkokfffjgdjoaaW.PrintMore
attribute [local go_sem] max2_int min2_int max_two min_two max_three min_three max_four min_four   -- for this text's walks alone
open List renaming setIfInBounds_toArray → s1_, set_cons_zero → s2_, set_cons_succ → s3_
set_option linter.unusedVariables false
set_option linter.unusedSimpArgs false

/-! ### impl_GetCost: function 14 -/
def impl_GetCost.l0 : Nat → List Int → ByteArray → Int → Option (List Int × List Int × List Int × Bool)
 | 0, _, _, _ => none
 | k + 1, x4, x5, x11 => if x11 < 48 then ((impl_ReadVar.f k x5).bind fun bt537 => (if bt537.2 = 0 then (some (([] : List Int), ([] : List Int), ([] : List Int), false)) else (if x4.length < 17592186044416 then (if 0 ≤ bt537.2 then (if bt537.2 ≤ (x5.size : Int) then (impl_GetCost.l0 k (x4 ++ [bt537.1]) (x5.extract (bt537.2 : Int).toNat x5.size) (wrap64 (x11 + 1))) else (none)) else (none)) else (none)))) else (if 6 ≤ (x4.length : Int) then ((slices_Clone_int_int.f (x4.take 6)).bind fun t546 => (if 6 ≤ 12 then (if 12 ≤ (x4.length : Int) then ((slices_Clone_int_int.f ((x4.take 12).drop 6)).bind fun t553 => ((slices_Clone_int_int.f (x4.drop 12)).bind fun t560 => (if x5.toList = ([] : List UInt8) then ((impl_CostOk.f k t546 t553 t560).bind fun t564 => (if t564 = true then (some (t546, t553, t560, true)) else (some (([] : List Int), ([] : List Int), ([] : List Int), false)))) else (some (([] : List Int), ([] : List Int), ([] : List Int), false))))) else (none)) else (none))) else (none))
def impl_GetCost.f (k : Nat) (a0 : ByteArray) : Option (List Int × List Int × List Int × Bool) := impl_GetCost.l0 k (([] : List Int)) a0 0
theorem impl_GetCost.mono_l : ∀ k, (∀ y0 y1 y2, LeO (impl_GetCost.l0 k y0 y1 y2) (impl_GetCost.l0 (k + 1) y0 y1 y2))
 | 0 => fun _ _ _ r h => by simp [impl_GetCost.l0] at h
 | k + 1 => by
  have ih0 := impl_GetCost.mono_l k
  ·intro y0 y1 y2
   unfold impl_GetCost.l0
   repeat' first
   | (with_reducible exact ih0 _ _ _)
   | (with_reducible exact impl_CostOk.mono _ _ _ _)
   | (with_reducible exact impl_ReadVar.mono _ _)
   | (with_reducible exact LeO.refl _)
   | (with_reducible exact LeO.none _)
   | (with_reducible refine LeO.ite ?_ ?_)
   | (with_reducible refine LeO.bind ?_ (fun _ => ?_))
   | exact ih0 _ _ _
   | exact impl_CostOk.mono _ _ _ _
   | exact impl_ReadVar.mono _ _
   | exact LeO.none _
   | refine LeO.ite ?_ ?_
   | refine LeO.bind ?_ (fun _ => ?_)
theorem impl_GetCost.mono : ∀ a0 k, LeO (impl_GetCost.f k a0) (impl_GetCost.f (k + 1) a0) := by
 intro a0 k
 have ih0 := impl_GetCost.mono_l k
 unfold impl_GetCost.f
 repeat' first
   | (with_reducible exact ih0 _ _ _)
   | (with_reducible exact impl_CostOk.mono _ _ _ _)
   | (with_reducible exact impl_ReadVar.mono _ _)
   | (with_reducible exact LeO.refl _)
   | (with_reducible exact LeO.none _)
   | (with_reducible refine LeO.ite ?_ ?_)
   | (with_reducible refine LeO.bind ?_ (fun _ => ?_))
   | exact ih0 _ _ _
   | exact impl_CostOk.mono _ _ _ _
   | exact impl_ReadVar.mono _ _
   | exact LeO.none _
   | refine LeO.ite ?_ ?_
   | refine LeO.bind ?_ (fun _ => ?_)
theorem impl_GetCost.tab7 : rtab .any (opsOf Try.f14 7) = (true, [([], []), ([], []), ([1], [1]), ([0, 2], [0, 2]), ([], []), ([], []), ([4, 5], [4, 5]), ([3, 3, 0, 1, 2, 3], [0, 3]), ([6, 7, 0, 1, 2, 3, 4, 5, 6, 7], [4, 6])]) := by kernel_rfl
def impl_GetCost.T9 : Bool × List (List Nat × List Nat) := (true, [([], []), ([0], [0]), ([1], [1]), ([], []), ([3], [3]), ([4, 2], [4]), ([], []), ([6], [6]), ([7, 5], [7]), ([2, 5, 8], [2, 5, 8]), ([], []), ([10, 9, 8, 0, 1, 2, 3, 4, 5, 6, 7, 8, 9, 10], [9, 10])])
theorem impl_GetCost.tab9 : rtab .any (opsOf Try.f14 9) = impl_GetCost.T9 := by kernel_rfl
theorem impl_GetCost.rdy : ∀ b1 b2 b4 : Bool, readyT impl_GetCost.T9.2 [true, true, b1, true, true, b2, true, true, false, false, b4, false] ≠ [] ∧ ∀ i ∈ readyT impl_GetCost.T9.2 [true, true, b1, true, true, b2, true, true, false, false, b4, false], (i = 2 ∧ b1 = false) ∨ (i = 5 ∧ b2 = false ∧ b1 = true) ∨ (i = 8 ∧ b2 = true) ∨ (i = 10 ∧ b4 = false) := by decide
set_option maxHeartbeats 8000000 in
set_option maxRecDepth 100000 in
theorem impl_GetCost.calls (k : Nat) (a0 : ByteArray) (r1 : List Int) (r2 : List Int) (r3 : List Int) (r4 : Bool) (w : World) (h : impl_GetCost.f k a0 = some (r1, r2, r3, r4)) :
    Calls Try.prog 14 #[.string a0] w fun e w' => ∃ v0 v1 v2 : Value, e = .returned (.tuple #[.agg #[v0, v1, v2], .bool r4]) ∧ Kd.R (Kd.int .i64) 3 w' 0 (fun _ => True) v0 r1 ∧ Kd.R (Kd.int .i64) 3 w' 0 (fun _ => True) v1 r2 ∧ Kd.R (Kd.int .i64) 3 w' 0 (fun _ => True) v2 r3 ∧ Below w.heap.size w w' := by
  have hu35 := Try.underlying35
  have HB := Aside0.mk (Below.refl w.heap.size w)
  have H' := Aside0.mk h
  clear h
  go_enter Try.func14, Try.ntmps14
  go_wp2
  go_loopg [4, 5, 11] k (fun kq v4 v5 v11 w' => ∃ (l : List Int) (s : ByteArray) (i : Int), v5 = .string s ∧ v11 = .int .i64 i ∧ Aside0 (impl_GetCost.l0 kq l s i = some (r1, r2, r3, r4)) ∧ Aside0 (kq ≤ k) ∧ Aside0 (Kd.R (Kd.int .i64) 3 w' w.heap.size (fun _ => True) v4 l) ∧ Aside0 (w'.heap[w.heap.size]? = some (.cells #[.slice none 0 0, .slice none 0 0, .slice none 0 0] 35 (0, 0))) ∧ Aside0 (Below w.heap.size w w'))
  case atStart => exact ⟨[], a0, 0, rfl, rfl, H', ⟨Nat.le_refl _⟩, ⟨R_empty (by have h_ := blk_new (w.alloc (.cells #[.slice none 0 0, .slice none 0 0, .slice none 0 0] 35)) (.cells #[] 3); simpa using h_) (by omega)⟩, ⟨blk_alloc (blk_new _ _) _⟩, ⟨upE⟩⟩
  case round =>
    clear H' HB
    obtain ⟨l, s, i, rfl, rfl, HA, HK1, HO, BK, HB⟩ := hrel
    cases gk with
    | zero => exact absurd HA.out (by simp [impl_GetCost.l0])
    | succ k1 =>
      have H := HA.out
      clear HA
      simp only [impl_GetCost.l0] at H
      by_cases c5 : i < 48
      · rw [if_pos c5] at H
        have c5b := decide_eq_true c5
        clear c5
        obtain ⟨⟨n, m⟩, A1, H⟩ := bindS H
        dsimp only at H
        replace A1 := Aside0.mk A1
        by_cases c7 : m = 0
        · subst c7
          obtain ⟨rfl, rfl, rfl, rfl⟩ : [] = r1 ∧ [] = r2 ∧ [] = r3 ∧ false = r4 := by simpa using H
          clear H
          go_wp2_with (first | (go_at_call 25; (with_reducible refine (impl_ReadVar.calls k1 s n _ _ A1.out).mono ?_); rintro e w1 ⟨rfl, hb⟩; have hE := Aside0.mk hb; clear hb) | ((with_reducible refine gate_store (t := 35) (p := 2) rfl ?_); refine store3 rfl rfl rfl rfl rfl (blk_below BK.out upE) ?_; intro w2 hW; have W2 := Aside0.mk hW; clear hW))
          refine bodyPost_ret (results_ct rfl _ _ w.heap.size 35 _ (0, 0) _ rfl W2.out.blk Try.underlying35 rfl (by kernel_rfl)) rfl ?_
          exact ⟨_, _, _, rfl, Kd.R_nil _ _ _ _ _, Kd.R_nil _ _ _ _ _, Kd.R_nil _ _ _ _ _, W2.out.below upE (Nat.le_refl _)⟩
        · rw [if_neg c7] at H
          have c7b : (m == 0) = false := beq_eq_false_iff_ne.mpr c7
          clear c7
          by_cases c10 : l.length < 17592186044416
          · rw [if_pos c10] at H
            by_cases c11 : 0 ≤ m
            · rw [if_pos c11] at H
              by_cases c12 : m ≤ (s.size : Int)
              · rw [if_pos c12] at H
                have H' := Aside0.mk H
                have LM := Aside0.mk c10
                have c11b := decide_eq_true c11
                have c12b := decide_eq_true c12
                replace c11 := eq_true c11
                replace c12 := eq_true c12
                clear H c10
                go_wp2_with (go_at_call 25; (with_reducible refine (impl_ReadVar.calls k1 s n _ _ A1.out).mono ?_); rintro e w1 ⟨rfl, hb⟩; have hE := Aside0.mk hb; clear hb)
                refine start_ (n := 9) (S := fun _ => True) (ds := []) (bits 9 0) (by kernel_rfl) rfl rfl trivial (fun hHeld => ?_)
                refine with_tab impl_GetCost.tab7 (fun HT_ => ?_)
                have HO1 := Aside0.mk (Kd.R_drew (Kd.R_below HO.out hE.out))
                have BK1 := Aside0.mk (blk_drew (blk_below BK.out hE.out))
                have HB1 := Aside0.mk (below_drew1 (below_step HB.out hE.out))
                generalize w1.drew = w3 at HO1 BK1 HB1 ⊢
                refine purA 0 21 (bits 9 1) HT_.out ?_
                refine purA 1 22 (bits 9 3) HT_.out ?_
                refine purA 4 25 (bits 9 19) HT_.out ?_
                refine purA 5 26 (bits 9 51) HT_.out ?_
                refine purA 6 27 (bits 9 115) HT_.out ?_
                refine oneV 2 23 (bits 9 119) HT_.out ?_
                refine oneK 3 (some 24) (bits 9 127) HT_.out (fun K hK => ?_)
                refine app1_step (w0 := w) (B := w.heap.size) rfl rfl rfl rfl HO1.out HB1.out (below_size HB1.out) LM.out ?_
                intro v w4 hO hb hg
                have HO := Aside0.mk hO
                have BK := Aside0.mk (blk_grown BK1.out hg (Kd.R_ne HO1.out BK1.out (by decide)))
                have HB := Aside0.mk hb
                clear hO hb hg HO1 BK1 HB1
                refine hK _ _ (normA ?_)
                clear hK
                refine purA 7 4 (bits 9 255) HT_.out ?_
                refine purA 8 5 (bits 9 511) HT_.out ?_
                refine done_ (done_of HT_.out (by kernel_rfl)) ?_
                go_wp2
                go_roundg k1
                case measure => have := HK1.out; omega
                case rel => exact ⟨l ++ [n], s.extract m.toNat s.size, wrap64 (i + 1), rfl, rfl, H', ⟨by have := HK1.out; omega⟩, ⟨HO.out⟩, ⟨BK.out⟩, ⟨HB.out⟩⟩
              · rw [if_neg c12] at H; cases H
            · rw [if_neg c11] at H; cases H
          · rw [if_neg c10] at H; cases H
      · rw [if_neg c5] at H
        have c5b := decide_eq_false c5
        clear c5
        by_cases c6 : 6 ≤ (l.length : Int)
        · rw [if_pos c6] at H
          obtain ⟨t1, A1, H⟩ := bindS H
          rw [if_pos (by decide)] at H
          by_cases c12 : 12 ≤ (l.length : Int)
          · rw [if_pos c12] at H
            obtain ⟨t2, A2, H⟩ := bindS H
            obtain ⟨t3, A3, H⟩ := bindS H
            replace A1 := Aside0.mk A1
            replace A2 := Aside0.mk A2
            replace A3 := Aside0.mk A3
            have HH := Aside0.mk H
            clear H
            go_wp2
            obtain ⟨Al, cl, rfl⟩ := Kd.R_slice HO.out
            have hC := (Kd.R_reads' HO.out).2
            obtain ⟨B2, d2, B3, d3, hc1, hc2, hc3, hr1, hl1, hr2, hl2, hr3, hl3⟩ := cuts3 hC.2 hC.1 (by omega)
            clear hC c6 c12
            refine start_ (n := 12) (S := fun _ => True) (ds := []) (bits 12 0) (by kernel_rfl) rfl rfl trivial (fun hHeld => ?_)
            refine with_tab impl_GetCost.tab9 (fun HT_ => ?_)
            have HR1 := Aside0.mk (Kd.C_below hr1 (below_drew1 (Below.refl _ _)))
            have HR2 := Aside0.mk (Kd.C_below hr2 (below_drew1 (Below.refl _ _)))
            have HR3 := Aside0.mk (Kd.C_below hr3 (below_drew1 (Below.refl _ _)))
            have HL1 := Aside0.mk hl1
            have HL2 := Aside0.mk hl2
            have HL3 := Aside0.mk hl3
            have BK1 := Aside0.mk (blk_drew BK.out)
            have HB1 := Aside0.mk (below_drew1 HB.out)
            clear hr1 hr2 hr3 hl1 hl2 hl3 HO BK HB
            generalize wr.drew = w1 at HR1 HR2 HR3 BK1 HB1 ⊢
            refine purA 0 29 (bits 12 1) HT_.out ?_
            refine purA 1 30 (bits 12 3) HT_.out ?_
            refine purA 3 32 (bits 12 11) HT_.out ?_
            refine purA 4 33 (bits 12 27) HT_.out ?_
            refine purA 6 35 (bits 12 91) HT_.out ?_
            refine purA 7 36 (bits 12 219) HT_.out ?_
            refine withAct (fun a1 ha1 => ?_)
            refine join_ (σ := Value × Value × Value × Nat) 1 (bits 12 2047) (fun s => [(31, s.1), (34, s.2.1), (37, s.2.2.1), (8, .pointer (some ⟨s.2.2.2, 0, none⟩)), (38, .agg #[s.1, s.2.1, s.2.2.1])]) (fun s w2 => Kd.R (Kd.int .i64) 3 w2 0 (fun _ => True) s.1 t1 ∧ Kd.R (Kd.int .i64) 3 w2 0 (fun _ => True) s.2.1 t2 ∧ Kd.R (Kd.int .i64) 3 w2 0 (fun _ => True) s.2.2.1 t3 ∧ w2.heap[s.2.2.2]? = some (.cells #[.slice none 0 0, .slice none 0 0, .slice none 0 0] 35 (0, 0)) ∧ w1.heap.size ≤ s.2.2.2 ∧ Below w1.heap.size w1 w2) ?_ (fun hfin => ?_)
            · rintro ⟨v1, v2, v3, g⟩ w2 ⟨h1, h2, h3, hg, hge, hb⟩
              have R1 := Aside0.mk h1
              have R2 := Aside0.mk h2
              have R3 := Aside0.mk h3
              have BG := Aside0.mk hg
              have GE := Aside0.mk hge
              have HE := Aside0.mk hb
              clear h1 h2 h3 hg hge hb HR1 HR2 HR3 HL1 HL2 HL3 hc1 hc2 hc3
              subst ha1
              simp only [putAll, Act.put, List.setIfInBounds_toArray, List.set_cons_zero, List.set_cons_succ]
              refine oneK 11 none (bits 12 4095) HT_.out (fun K hK => ?_)
              obtain ⟨A1', c1', rfl⟩ := Kd.R_slice R1.out
              obtain ⟨A2', c2', rfl⟩ := Kd.R_slice R2.out
              obtain ⟨A3', c3', rfl⟩ := Kd.R_slice R3.out
              refine store3_step rfl rfl rfl rfl rfl BG.out ?_
              intro w3 hW
              have W3 := Aside0.mk hW
              clear hW
              refine hK _ _ ?_
              clear hK K
              refine done_ (done_of HT_.out (by kernel_rfl)) ?_
              have HB2 := Aside0.mk (W3.out.below (below_step HB1.out HE.out) (Nat.le_trans (below_size HB1.out) GE.out))
              have B2' := Aside0.mk (W3.out.far (Nat.ne_of_lt (Nat.lt_of_lt_of_le (blk_lt BK1.out) GE.out)) (blk_below BK1.out HE.out))
              have BG' := Aside0.mk W3.out.blk
              have S1 := Aside0.mk (W3.out.R R1.out)
              have S2 := Aside0.mk (W3.out.R R2.out)
              have S3 := Aside0.mk (W3.out.R R3.out)
              clear R1 R2 R3 BG HE W3 BK1 HB1 GE
              have H := HH.out
              clear HH
              by_cases cs : s.toList = ([] : List UInt8)
              · rw [if_pos cs] at H
                have cs1 : (s.toList == ([] : List UInt8)) = true := beq_iff_eq.mpr cs
                have cs2 : (s.toList != ([] : List UInt8)) = false := bne_eq_false_iff_eq.mpr cs
                clear cs
                obtain ⟨t4, A4, H⟩ := bindS H
                replace A4 := Aside0.mk A4
                cases t4 with
                | false =>
                  obtain ⟨rfl, rfl, rfl, rfl⟩ : [] = r1 ∧ [] = r2 ∧ [] = r3 ∧ false = r4 := by simpa using H
                  clear H
                  go_wp2_with (first | ((with_reducible refine gate_dst (N := 42) rfl ?_); (try (refine gate_guard (by rfl) ?_; dsimp only)); refine load3 rfl rfl rfl rfl (blk_below BG'.out upE) ?_) | (go_at_call 34; (with_reducible refine (impl_CostOk.calls k1 _ _ t1 _ _ t2 _ _ t3 _ _ (Kd.C_below (Kd.R_reads' S1.out).2.2 upE) (Kd.R_reads' S1.out).2.1 (Kd.C_below (Kd.R_reads' S2.out).2.2 upE) (Kd.R_reads' S2.out).2.1 (Kd.C_below (Kd.R_reads' S3.out).2.2 upE) (Kd.R_reads' S3.out).2.1 A4.out).mono ?_); rintro _ w4 ⟨rfl, hb⟩; have hE4 := Aside0.mk hb; clear hb) | ((with_reducible refine gate_store (t := 35) (p := 2) rfl ?_); refine store3 rfl rfl rfl rfl rfl (blk_below B2'.out upE) ?_; intro w5 hW; have W5 := Aside0.mk hW; clear hW))
                  refine bodyPost_ret (results_ct rfl _ _ w.heap.size 35 _ (0, 0) _ rfl W5.out.blk Try.underlying35 rfl (by kernel_rfl)) rfl ?_
                  exact ⟨_, _, _, rfl, Kd.R_nil _ _ _ _ _, Kd.R_nil _ _ _ _ _, Kd.R_nil _ _ _ _ _, W5.out.below upE (Nat.le_refl _)⟩
                | true =>
                  obtain ⟨rfl, rfl, rfl, rfl⟩ : t1 = r1 ∧ t2 = r2 ∧ t3 = r3 ∧ true = r4 := by simpa using H
                  clear H
                  go_wp2_with (first | ((with_reducible refine gate_dst (N := 42) rfl ?_); (try (refine gate_guard (by rfl) ?_; dsimp only)); refine load3 rfl rfl rfl rfl (blk_below BG'.out upE) ?_) | (go_at_call 34; (with_reducible refine (impl_CostOk.calls k1 _ _ t1 _ _ t2 _ _ t3 _ _ (Kd.C_below (Kd.R_reads' S1.out).2.2 upE) (Kd.R_reads' S1.out).2.1 (Kd.C_below (Kd.R_reads' S2.out).2.2 upE) (Kd.R_reads' S2.out).2.1 (Kd.C_below (Kd.R_reads' S3.out).2.2 upE) (Kd.R_reads' S3.out).2.1 A4.out).mono ?_); rintro _ w4 ⟨rfl, hb⟩; have hE4 := Aside0.mk hb; clear hb) | ((with_reducible refine gate_dst (N := 47) rfl ?_); (try (refine gate_guard (by rfl) ?_; dsimp only)); refine load3 rfl rfl rfl rfl (blk_below BG'.out upE) ?_) | ((with_reducible refine gate_store (t := 35) (p := 2) rfl ?_); refine store3 rfl rfl rfl rfl rfl (blk_below B2'.out upE) ?_; intro w5 hW; have W5 := Aside0.mk hW; clear hW))
                  refine bodyPost_ret (results_ct rfl _ _ w.heap.size 35 _ (0, 0) _ rfl W5.out.blk Try.underlying35 rfl (by kernel_rfl)) rfl ?_
                  exact ⟨_, _, _, rfl, W5.out.R (Kd.R_below S1.out upE), W5.out.R (Kd.R_below S2.out upE), W5.out.R (Kd.R_below S3.out upE), W5.out.below upE (Nat.le_refl _)⟩
              · rw [if_neg cs] at H
                have cs1 : (s.toList == ([] : List UInt8)) = false := beq_eq_false_iff_ne.mpr cs
                have cs2 : (s.toList != ([] : List UInt8)) = true := bne_iff_ne.mpr cs
                clear cs
                obtain ⟨rfl, rfl, rfl, rfl⟩ : [] = r1 ∧ [] = r2 ∧ [] = r3 ∧ false = r4 := by simpa using H
                clear H
                go_wp2_with ((with_reducible refine gate_store (t := 35) (p := 2) rfl ?_); refine store3 rfl rfl rfl rfl rfl (blk_below B2'.out upE) ?_; intro w5 hW; have W5 := Aside0.mk hW; clear hW)
                refine bodyPost_ret (results_ct rfl _ _ w.heap.size 35 _ (0, 0) _ rfl W5.out.blk Try.underlying35 rfl (by kernel_rfl)) rfl ?_
                exact ⟨_, _, _, rfl, Kd.R_nil _ _ _ _ _, Kd.R_nil _ _ _ _ _, Kd.R_nil _ _ _ _ _, W5.out.below upE (Nat.le_refl _)⟩
            · refine inv_ (I := fun n l' a w2 => ∃ (b1 b2 b3 b4 : Bool) (v1 v2 v3 v8 : Value), l' = #[true, true, b1, true, true, b2, true, true, b3, false, b4, false] ∧ n + (b1.toNat + b2.toNat + b3.toNat + b4.toNat) = 6 ∧ a = putAll a1 [(31, v1), (34, v2), (37, v3), (8, v8)] ∧ Below w1.heap.size w1 w2 ∧ (b1 = true → Kd.R (Kd.int .i64) 3 w2 0 (fun _ => True) v1 t1) ∧ (b2 = true → b1 = true ∧ Kd.R (Kd.int .i64) 3 w2 0 (fun _ => True) v2 t2) ∧ (b3 = true → b2 = true ∧ Kd.R (Kd.int .i64) 3 w2 0 (fun _ => True) v3 t3) ∧ (b4 = true → ∃ g, v8 = .pointer (some ⟨g, 0, none⟩) ∧ w2.heap[g]? = some (.cells #[.slice none 0 0, .slice none 0 0, .slice none 0 0] 35 (0, 0)) ∧ w1.heap.size ≤ g)) HT_.out ?_ _ _ _ _ ⟨false, false, false, false, a1.tmps.getD 31 undef, a1.tmps.getD 34 undef, a1.tmps.getD 37 undef, a1.tmps.getD 8 undef, rfl, rfl, by subst ha1; rfl, Below.refl _ _, by simp, by simp, by simp, by simp⟩
              rintro n l' a w2 ⟨b1, b2, b3, b4, v1, v2, v3, v8, rfl, hn, rfl, hB, h1, h2, h3, h4⟩
              cases b3 with
              | true =>
                left
                obtain ⟨rfl, g3⟩ := h3 rfl
                obtain ⟨rfl, g2⟩ := h2 rfl
                have g1 := h1 rfl
                clear h1 h2 h3
                obtain ⟨X1, y1, rfl⟩ := Kd.R_slice g1
                obtain ⟨X2, y2, rfl⟩ := Kd.R_slice g2
                obtain ⟨X3, y3, rfl⟩ := Kd.R_slice g3
                cases b4 with
                | true =>
                  obtain ⟨g, rfl, hg, hge⟩ := h4 rfl
                  obtain rfl : n = 2 := by simpa using hn
                  have hF := hfin ⟨_, _, _, g⟩ w2 ⟨g1, g2, g3, hg, hge, hB⟩
                  subst ha1
                  clear hfin
                  simp only [putAll, Act.put, List.setIfInBounds_toArray, List.set_cons_zero, List.set_cons_succ]
                  refine purA 9 38 (bits 12 2047) HT_.out ?_
                  exact hF
                | false =>
                  obtain rfl : n = 3 := by simpa using hn
                  have hF := hfin ⟨_, _, _, w2.heap.size⟩ (w2.alloc (.cells #[.slice none 0 0, .slice none 0 0, .slice none 0 0] 35 (0, 0))) ⟨Kd.R_alloc g1 _, Kd.R_alloc g2 _, Kd.R_alloc g3 _, blk_new _ _, below_size hB, below_alloc hB _⟩
                  subst ha1
                  clear hfin
                  simp only [putAll, Act.put, List.setIfInBounds_toArray, List.set_cons_zero, List.set_cons_succ]
                  refine purA 9 38 (bits 12 1023) HT_.out ?_
                  refine oneV 10 8 (bits 12 2047) HT_.out ?_
                  exact hF
              | false =>
                right
                obtain ⟨hne, hall⟩ := impl_GetCost.rdy b1 b2 b4
                refine ⟨n - 1, by cases b1 <;> cases b2 <;> cases b4 <;> simp at hn <;> omega, hne, fun i hi => ?_⟩
                rcases hall i hi with ⟨rfl, rfl⟩ | ⟨rfl, rfl, rfl⟩ | ⟨rfl, rfl⟩ | ⟨rfl, rfl⟩
                · subst ha1
                  refine wpOp_step (i := 2) rfl (fun K hK => ?_)
                  refine goes_ Try.func33 (by kernel_rfl) rfl #[.slice Al (l.take 6).length cl] (by rfl) rfl rfl (by simp [putAll, Act.put, Act.eval]) ?_
                  (with_reducible refine (slices_Clone_int_int.calls _ _ _ _ _ (Kd.C_below HR1.out hB) HL1.out A1.out).mono ?_)
                  rintro e w4 ⟨v, rfl, ho, hb⟩
                  exact ⟨_, rfl, hK _ _ ⟨fun _ _ => trivial, true, b2, false, b4, v, v2, v3, v8, rfl, by have := Bool.toNat_le b2; have := Bool.toNat_le b4; simp only [Bool.toNat_true, Bool.toNat_false] at hn ⊢; omega, rfl, below_step hB hb, fun _ => Kd.R_mono (Kd.R_lower ho (Nat.zero_le _)) (fun _ _ => trivial), fun h => ⟨rfl, Kd.R_below (h2 h).2 hb⟩, fun h => (nomatch h), fun h => by obtain ⟨g, e, hg, hge⟩ := h4 h; exact ⟨g, e, blk_below hg hb, hge⟩⟩⟩
                · subst ha1
                  refine wpOp_step (i := 5) rfl (fun K hK => ?_)
                  refine goes_ Try.func33 (by kernel_rfl) rfl #[.slice B2 ((l.take 12).drop 6).length d2] (by rfl) rfl rfl (by simp [putAll, Act.put, Act.eval]) ?_
                  (with_reducible refine (slices_Clone_int_int.calls _ _ _ _ _ (Kd.C_below HR2.out hB) HL2.out A2.out).mono ?_)
                  rintro e w4 ⟨v, rfl, ho, hb⟩
                  exact ⟨_, rfl, hK _ _ ⟨fun _ _ => trivial, true, true, false, b4, v1, v, v3, v8, rfl, by have := Bool.toNat_le b4; simp only [Bool.toNat_true, Bool.toNat_false] at hn ⊢; omega, rfl, below_step hB hb, fun _ => Kd.R_below (h1 rfl) hb, fun _ => ⟨rfl, Kd.R_mono (Kd.R_lower ho (Nat.zero_le _)) (fun _ _ => trivial)⟩, fun h => (nomatch h), fun h => by obtain ⟨g, e, hg, hge⟩ := h4 h; exact ⟨g, e, blk_below hg hb, hge⟩⟩⟩
                · subst ha1
                  refine wpOp_step (i := 8) rfl (fun K hK => ?_)
                  refine goes_ Try.func33 (by kernel_rfl) rfl #[.slice B3 (l.drop 12).length d3] (by rfl) rfl rfl (by simp [putAll, Act.put, Act.eval]) ?_
                  (with_reducible refine (slices_Clone_int_int.calls _ _ _ _ _ (Kd.C_below HR3.out hB) HL3.out A3.out).mono ?_)
                  rintro e w4 ⟨v, rfl, ho, hb⟩
                  exact ⟨_, rfl, hK _ _ ⟨fun _ _ => trivial, b1, true, true, b4, v1, v2, v, v8, rfl, by have := Bool.toNat_le b1; have := Bool.toNat_le b4; simp only [Bool.toNat_true, Bool.toNat_false] at hn ⊢; omega, rfl, below_step hB hb, fun h => Kd.R_below (h1 h) hb, fun h => ⟨(h2 h).1, Kd.R_below (h2 h).2 hb⟩, fun _ => ⟨rfl, Kd.R_mono (Kd.R_lower ho (Nat.zero_le _)) (fun _ _ => trivial)⟩, fun h => by obtain ⟨g, e, hg, hge⟩ := h4 h; exact ⟨g, e, blk_below hg hb, hge⟩⟩⟩
                · subst ha1
                  refine wpOp_step (i := 10) rfl (fun K hK => ?_)
                  refine event_step (by rfl) (w1 := w2.alloc (.cells #[.slice none 0 0, .slice none 0 0, .slice none 0 0] 35 (0, 0))) (v := .pointer (some ⟨w2.heap.size, 0, none⟩)) (by go_simp; first | done | rfl | (constructor <;> rfl)) ?_
                  exact hK _ _ ⟨fun _ _ => trivial, b1, b2, false, true, v1, v2, v3, _, rfl, by have := Bool.toNat_le b1; have := Bool.toNat_le b2; simp only [Bool.toNat_true, Bool.toNat_false] at hn ⊢; omega, rfl, below_alloc hB _, fun h => Kd.R_alloc (h1 h) _, fun h => ⟨(h2 h).1, Kd.R_alloc (h2 h).2 _⟩, fun h => (nomatch h), fun _ => ⟨_, rfl, blk_new _ _, below_size hB⟩⟩
          · rw [if_neg c12] at H; cases H
        · rw [if_neg c6] at H; cases H


end Go.Proofs.Ytpkokfffjgdjoaa.HFnBytes
