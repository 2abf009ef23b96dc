/- What laws.FnBytes comes to, out of what its callees come to. Conditions: those of the last theorem alone. -/
import Derived.Test.YtpkokfffjgdjoaaHFnBytesx0
import Derived.Test.YtpkokfffjgdjoaaHFnBytesx2
import Derived.Test.YtpkokfffjgdjoaaHFnBytesx3
import Derived.Test.YtpkokfffjgdjoaaHFnBytesx4
import Derived.Test.YtpkokfffjgdjoaaHFnBytesx5
import Derived.Test.YtpkokfffjgdjoaaHFnBytesx6
import Derived.Test.YtpkokfffjgdjoaaHFnBytesx7
import Derived.Test.YtpkokfffjgdjoaaHFnBytesx9
import Derived.Test.YtpkokfffjgdjoaaHFnBytesx10
import Derived.Test.YtpkokfffjgdjoaaHFnBytesx13
import Derived.Test.YtpkokfffjgdjoaaHFnBytesx15
import Derived.Test.YtpkokfffjgdjoaaHFnBytesx16
import Derived.Test.YtpkokfffjgdjoaaHFnBytesx17
import Derived.Test.YtpkokfffjgdjoaaHFnBytesx18
import Derived.Test.YtpkokfffjgdjoaaHFnBytesx19
namespace Go.Proofs.Ytpkokfffjgdjoaa.HFnBytes
open Go.RowKit Go.Proofs.YtpkokfffjgdjoaaW.PrintWords Go.Proofs.YtpkokfffjgdjoaaW.PrintLast Go.Proofs.YtpkokfffjgdjoaaW.PrintMore
attribute [local go_sem] max2_int min2_int max_two min_two max_three min_three max_four min_four
set_option linter.unusedVariables false
set_option linter.unusedSimpArgs false
inductive laws_FnBytes.Said (k : Nat) (l0 : List Int) : Prop
  | mk (l m x x' : List S46) (s t code : ByteArray) (c d : Int) (ok is fine : Bool) (a b e aa bb ee z0 z1 z2 y0 y1 y2 : List Int) (p u : ByteArray)
    (h1 : Aside0 (spec_DrawPutTree.f k l0 = some l)) (h2 : Aside0 (impl_PutTree.f k l = some s)) (h3 : Aside0 (impl_GetTree.f k s = some (m, c)))
    (h4 : Aside0 (spec_TreeOk.f k l = some ok)) (h5 : ok = true → c = 0 ∧ s.toList ≠ [] ∧ spec_SameTree.f k l m = some true) (h6 : ok = false → c ≠ 0 ∧ s = ⟨#[]⟩)
    (g1 : Aside0 (spec_DrawGetTree.f k l0 = some t)) (g2 : Aside0 (impl_GetTree.f k t = some (x, d))) (g3 : Aside0 (spec_GetTree.f k t = some (x', d)))
    (g4 : d = 0 → impl_PutTree.f k x = some t) (g5 : d ≠ 0 → x = []) (g6 : Aside0 (impl_TreeCode.f d = some code)) (g7 : code.toList ≠ [])
    (f1 : Aside0 (spec_DrawPutCost.f k l0 = some (a, b, e))) (f2 : Aside0 (impl_PutCost.f k a b e = some p)) (f3 : Aside0 (impl_GetCost.f k p = some (aa, bb, ee, is)))
    (f4 : Aside0 (spec_CostOk.f k a b e = some is)) (f5 : is = true → spec_SameCost.f k a b e aa bb ee = some true ∧ impl_SameCost.f k a b e aa bb ee = some true)
    (e1 : Aside0 (spec_DrawGetCost.f k l0 = some u)) (e2 : Aside0 (impl_GetCost.f k u = some (z0, z1, z2, fine))) (e3 : Aside0 (spec_GetCost.f k u = some (y0, y1, y2, fine)))
    (e4 : fine = true → impl_PutCost.f k z0 z1 z2 = some u) : laws_FnBytes.Said k l0
set_option maxHeartbeats 8000000 in
set_option maxRecDepth 100000 in
theorem laws_FnBytes.part1 (k : Nat) (A0 : Option Addr) (c0 : Nat) (l0 : List Int) (w : World) (hr0 : Kd.C (Kd.int .u8) w A0 l0.length l0) (hc0 : l0.length ≤ c0) (hb : laws_big.f l0 = some false) (h : laws_FnBytes.Said k l0) :
    Calls Try.prog 3 #[.slice A0 l0.length c0] w fun e w' => e = .returned (.bool true) ∧ Below w.heap.size w w' := by
  obtain ⟨l, m, x, x', s, t, code, c, d, ok, is, fine, a, b, e, aa, bb, ee, z0, z1, z2, y0, y1, y2, p, u, h1, h2, h3, h4, h5, h6, g1, g2, g3, g4, g5, g6, g7, f1, f2, f3, f4, f5, e1', e2, e3, e4⟩ := h
  have hu35 := Try.underlying35
  have HR0 := Aside0.mk hr0
  have HC0 := Aside0.mk hc0
  have HBG := Aside0.mk hb
  have H5 := Aside0.mk h5
  have H6 := Aside0.mk h6
  have G4 := Aside0.mk g4
  have G5 := Aside0.mk g5
  have G7 := Aside0.mk g7
  have F5 := Aside0.mk f5
  have E4 := Aside0.mk e4
  clear hr0 hc0 hb h5 h6 g4 g5 g7 f5 e4
  go_enter Try.func3, Try.ntmps3
  go_upto_region 6 with (first
    | (go_at_call 4; (with_reducible refine (laws_big.calls _ _ l0 false _ HR0.out HC0.out HBG.out).mono ?_); rintro e w' ⟨rfl, ⟨nd, rfl⟩⟩)
    | (go_at_call 5; (with_reducible refine (spec_DrawPutTree.calls k _ _ l0 l _ (Kd.C_below HR0.out upE) HC0.out h1.out).mono ?_); rintro e w1 ⟨v, rfl, q, hb1⟩; obtain ⟨Al, cl, rfl, qq⟩ := vQ q; have hE1 := Aside0.mk hb1; have hL := Aside0.mk qq; clear q qq hb1)
    | (go_at_call 6; (with_reducible refine (impl_PutTree.calls k _ _ l s _ (vC (Kd.V_below hL.out upE)) (vc hL.out) h2.out).mono ?_); rintro e w2 ⟨rfl, hb2⟩; have hE2 := Aside0.mk hb2; clear hb2)
    | (go_at_call 7; (with_reducible refine (impl_GetTree.calls k s m c _ h3.out).mono ?_); rintro e w3 ⟨v, rfl, q, hb3⟩; obtain ⟨Am, cm, rfl, qq⟩ := vR q; have hE3 := Aside0.mk hb3; have hM := Aside0.mk qq; clear q qq hb3))
  (try simp only [Act.put, List.setIfInBounds_toArray, List.set_cons_zero, List.set_cons_succ])
  go_cut [52] (fun v52 wc => v52 = .bool false ∧ Aside0 (Below w.heap.size w wc))
  case first =>
    cases ok with
    | false =>
      obtain ⟨hc, hs⟩ := H6.out rfl
      subst hs
      have hc1 : (c == 0) = false := beq_eq_false_iff_ne.mpr hc
      clear hc
      go_wp2_with (first
        | (go_at_call 8; (with_reducible refine (spec_TreeOk.calls k _ _ l false _ (vC (Kd.V_below hL.out upE)) (vc hL.out) h4.out).mono ?_); rintro e w4 ⟨rfl, hb4⟩; have hE4 := Aside0.mk hb4; clear hb4))
      go_meet
      case rel => exact ⟨rfl, ⟨upE⟩⟩
    | true =>
      obtain ⟨rfl, hs, hst⟩ := H5.out rfl
      have hs1 : (s.toList == []) = false := beq_eq_false_iff_ne.mpr hs
      have hs2 : s.toList.isEmpty = false := by simpa using hs
      have HST := Aside0.mk hst
      clear hs hst
      go_wp2_with (first
        | (go_at_call 8; (with_reducible refine (spec_TreeOk.calls k _ _ l true _ (vC (Kd.V_below hL.out upE)) (vc hL.out) h4.out).mono ?_); rintro e w4 ⟨rfl, hb4⟩; have hE4 := Aside0.mk hb4; clear hb4)
        | (go_at_call 9; (with_reducible refine (spec_SameTree.calls k _ _ l _ _ m true _ (vC (Kd.V_below hL.out upE)) (vc hL.out) (vC (Kd.V_below hM.out upE)) (vc hM.out) HST.out).mono ?_); rintro e w' ⟨rfl, ⟨nd, rfl⟩⟩))
      go_meet
      case rel => exact ⟨rfl, ⟨upE⟩⟩
  case rest =>
    obtain ⟨rfl, HB⟩ := hcut
    clear hL hM hE1 hE2 hE3
    go_upto_region 11 with (first
      | (go_at_call 10; (with_reducible refine (spec_DrawGetTree.calls k _ _ l0 t _ (Kd.C_below HR0.out upE) HC0.out g1.out).mono ?_); rintro e w1 ⟨rfl, hb1⟩; have hE1 := Aside0.mk hb1; clear hb1)
      | (go_at_call 7; (with_reducible refine (impl_GetTree.calls k t x d _ g2.out).mono ?_); rintro e w2 ⟨v, rfl, q, hb2⟩; obtain ⟨Ax, cx, rfl, qq⟩ := vR q; have hE2 := Aside0.mk hb2; have hX := Aside0.mk qq; clear q qq hb2)
      | (go_at_call 11; (with_reducible refine (spec_GetTree.calls k t x' d _ g3.out).mono ?_); rintro e w3 ⟨v, rfl, q, hb3⟩; have hE3 := Aside0.mk hb3; clear q hb3))
    (try simp only [Act.put, List.setIfInBounds_toArray, List.set_cons_zero, List.set_cons_succ])
    have g71 : (code.toList == []) = false := beq_eq_false_iff_ne.mpr G7.out
    have g72 : code.toList.isEmpty = false := by simpa using G7.out
    go_cut [91] (fun v52 wc => v52 = .bool false ∧ Aside0 (Below w.heap.size w wc))
    case first =>
      by_cases hd : d = 0
      · subst hd
        have hp := Aside0.mk (G4.out rfl)
        go_wp2_with (first
          | (go_at_call 6; (with_reducible refine (impl_PutTree.calls k _ _ x t _ (vC (Kd.V_below hX.out upE)) (vc hX.out) hp.out).mono ?_); rintro e w4 ⟨rfl, hb4⟩; have hE4 := Aside0.mk hb4; clear hb4)
          | (go_at_call 12; (with_reducible refine (impl_TreeCode.calls _ code _ g6.out).mono ?_); rintro e w5 ⟨rfl, hb5⟩; have hE5 := Aside0.mk hb5; clear hb5))
        go_meet
        case rel => exact ⟨rfl, ⟨upE⟩⟩
      · have hd1 : (d == 0) = false := beq_eq_false_iff_ne.mpr hd
        have hd2 : (d != 0) = true := bne_iff_ne.mpr hd
        obtain rfl := G5.out hd
        have HD := Aside0.mk hd
        clear hd
        go_wp2_with (first
          | (go_at_call 12; (with_reducible refine (impl_TreeCode.calls _ code _ g6.out).mono ?_); rintro e w5 ⟨rfl, hb5⟩; have hE5 := Aside0.mk hb5; clear hb5))
        go_meet
        case rel => exact ⟨rfl, ⟨upE⟩⟩
    case rest =>
      clear hX hE1 hE2 hE3 g71 g72
      obtain ⟨rfl, HB⟩ := hcut
      go_upto_region 18 with (first
        | (go_at_call 13; (with_reducible refine (spec_DrawPutCost.calls k _ _ l0 a b e _ (Kd.C_below HR0.out upE) HC0.out f1.out).mono ?_); rintro _ w1 ⟨A1, c1, A2, c2, A3, c3, rfl, qq0, qq1, qq2, hb1⟩; have hE1 := Aside0.mk hb1; have V1 := Aside0.mk qq0; have V2 := Aside0.mk qq1; have V3 := Aside0.mk qq2; clear qq0 qq1 qq2 hb1)
        | (go_at_call 15; (with_reducible refine (impl_PutCost.calls k _ _ _ a _ _ _ b _ _ _ e p _ (vB V1.out upE) (vB V2.out upE) (vB V3.out upE) f2.out).mono ?_); rintro _ w2 ⟨rfl, hb2⟩; have hE2 := Aside0.mk hb2; clear hb2)
        | (go_at_call 14; (with_reducible refine (impl_GetCost.calls k p aa bb ee is _ f3.out).mono ?_); rintro _ w3 ⟨v0, v1, v2, rfl, q0, q1, q2, hb1⟩; obtain ⟨A4, c4, rfl, qq0⟩ := vR q0; obtain ⟨A5, c5, rfl, qq1⟩ := vR q1; obtain ⟨A6, c6, rfl, qq2⟩ := vR q2; have hE3 := Aside0.mk hb1; have V4 := Aside0.mk qq0; have V5 := Aside0.mk qq1; have V6 := Aside0.mk qq2; clear q0 q1 q2 qq0 qq1 qq2 hb1)
        | (go_at_call 16; (with_reducible refine (spec_DrawGetCost.calls k _ _ l0 u _ (Kd.C_below HR0.out upE) HC0.out e1'.out).mono ?_); rintro _ w4 ⟨rfl, hb2⟩; have hE4 := Aside0.mk hb2; clear hb2)
        | (go_at_call 14; (with_reducible refine (impl_GetCost.calls k u z0 z1 z2 fine _ e2.out).mono ?_); rintro _ w5 ⟨v0, v1, v2, rfl, q0, q1, q2, hb1⟩; obtain ⟨A7, c7, rfl, qq0⟩ := vR q0; obtain ⟨A8, c8, rfl, qq1⟩ := vR q1; obtain ⟨A9, c9, rfl, qq2⟩ := vR q2; have hE5 := Aside0.mk hb1; have V7 := Aside0.mk qq0; have V8 := Aside0.mk qq1; have V9 := Aside0.mk qq2; clear q0 q1 q2 qq0 qq1 qq2 hb1)
        | (go_at_call 17; (with_reducible refine (spec_GetCost.calls k u y0 y1 y2 fine _ e3.out).mono ?_); rintro _ w6 ⟨v0, v1, v2, rfl, q0, q1, q2, hb1⟩; obtain ⟨Aa, ca, rfl, qq0⟩ := vR q0; obtain ⟨Ab, cb, rfl, qq1⟩ := vR q1; obtain ⟨Ac, cc, rfl, qq2⟩ := vR q2; have hE6 := Aside0.mk hb1; clear q0 q1 q2 qq0 qq1 qq2 hb1))
      all_goals cases is <;> cases fine
      all_goals
        try have HS := Aside0.mk (F5.out rfl).1
        try have HT := Aside0.mk (F5.out rfl).2
        try have HP := Aside0.mk (E4.out rfl)
        go_wp2_with (first
          | ((with_reducible refine gate_dst (N := 113) rfl ?_); (try (refine gate_guard (by rfl) ?_; dsimp only)); refine wpList_load_row rfl 35 (.tmp 12) rfl w1.heap.size rfl 35 _ (0, 0) _ (blkN w1 (.cells #[.slice A1 a.length c1, .slice A2 b.length c2, .slice A3 e.length c3] 35) upE) Try.underlying35 rfl (by kernel_rfl) ?_)
          | ((with_reducible refine gate_dst (N := 120) rfl ?_); (have h_ := HS; clear h_); (try (refine gate_guard (by rfl) ?_; dsimp only)); refine wpList_load_row rfl 35 (.tmp 12) rfl w1.heap.size rfl 35 _ (0, 0) _ (blkN w1 (.cells #[.slice A1 a.length c1, .slice A2 b.length c2, .slice A3 e.length c3] 35) upE) Try.underlying35 rfl (by kernel_rfl) ?_)
          | ((with_reducible refine gate_dst (N := 121) rfl ?_); (have h_ := HS; clear h_); (try (refine gate_guard (by rfl) ?_; dsimp only)); refine wpList_load_row rfl 35 (.tmp 13) rfl w3.heap.size rfl 35 _ (0, 0) _ (blkN w3 (.cells #[.slice A4 aa.length c4, .slice A5 bb.length c5, .slice A6 ee.length c6] 35) upE) Try.underlying35 rfl (by kernel_rfl) ?_)
          | ((with_reducible refine gate_dst (N := 124) rfl ?_); (have h_ := HS; clear h_); (try (refine gate_guard (by rfl) ?_; dsimp only)); refine wpList_load_row rfl 35 (.tmp 12) rfl w1.heap.size rfl 35 _ (0, 0) _ (blkN w1 (.cells #[.slice A1 a.length c1, .slice A2 b.length c2, .slice A3 e.length c3] 35) upE) Try.underlying35 rfl (by kernel_rfl) ?_)
          | ((with_reducible refine gate_dst (N := 125) rfl ?_); (have h_ := HS; clear h_); (try (refine gate_guard (by rfl) ?_; dsimp only)); refine wpList_load_row rfl 35 (.tmp 13) rfl w3.heap.size rfl 35 _ (0, 0) _ (blkN w3 (.cells #[.slice A4 aa.length c4, .slice A5 bb.length c5, .slice A6 ee.length c6] 35) upE) Try.underlying35 rfl (by kernel_rfl) ?_)
          | ((with_reducible refine gate_dst (N := 139) rfl ?_); (have h_ := HP; clear h_); (try (refine gate_guard (by rfl) ?_; dsimp only)); refine wpList_load_row rfl 35 (.tmp 16) rfl w5.heap.size rfl 35 _ (0, 0) _ (blkN w5 (.cells #[.slice A7 z0.length c7, .slice A8 z1.length c8, .slice A9 z2.length c9] 35) upE) Try.underlying35 rfl (by kernel_rfl) ?_)
          | (go_at_call 18; (with_reducible refine (spec_CostOk.calls k _ _ a _ _ b _ _ e _ _ (vC (Kd.V_below V1.out upE)) (vc V1.out) (vC (Kd.V_below V2.out upE)) (vc V2.out) (vC (Kd.V_below V3.out upE)) (vc V3.out) f4.out).mono ?_); rintro _ w7 ⟨rfl, hb2⟩; have hE7 := Aside0.mk hb2; clear hb2)
          | (go_at_call 19; (with_reducible refine (spec_SameCost.calls k _ _ a _ _ b _ _ e _ _ aa _ _ bb _ _ ee true _ (vC (Kd.V_below V1.out upE)) (vc V1.out) (vC (Kd.V_below V2.out upE)) (vc V2.out) (vC (Kd.V_below V3.out upE)) (vc V3.out) (vC (Kd.V_below V4.out upE)) (vc V4.out) (vC (Kd.V_below V5.out upE)) (vc V5.out) (vC (Kd.V_below V6.out upE)) (vc V6.out) HS.out).mono ?_); rintro _ w8 ⟨rfl, hb2⟩; have hE8 := Aside0.mk hb2; clear hb2)
          | (go_at_call 20; (with_reducible refine (impl_SameCost.calls k _ _ a _ _ b _ _ e _ _ aa _ _ bb _ _ ee true _ (vC (Kd.V_below V1.out upE)) (vc V1.out) (vC (Kd.V_below V2.out upE)) (vc V2.out) (vC (Kd.V_below V3.out upE)) (vc V3.out) (vC (Kd.V_below V4.out upE)) (vc V4.out) (vC (Kd.V_below V5.out upE)) (vc V5.out) (vC (Kd.V_below V6.out upE)) (vc V6.out) HT.out).mono ?_); rintro _ w9 ⟨rfl, hb2⟩; have hE9 := Aside0.mk hb2; clear hb2)
          | (go_at_call 15; (with_reducible refine (impl_PutCost.calls k _ _ _ z0 _ _ _ z1 _ _ _ z2 u _ (vB V7.out upE) (vB V8.out upE) (vB V9.out upE) HP.out).mono ?_); rintro _ w10 ⟨rfl, hb2⟩; have hE10 := Aside0.mk hb2; clear hb2))
        go_ret
        exact ⟨rfl, upE⟩
set_option maxHeartbeats 8000000 in
set_option maxRecDepth 100000 in
theorem laws_FnBytes.part0 (A0 : Option Addr) (c0 : Nat) (l0 : List Int) (w : World) (hr0 : Kd.C (Kd.int .u8) w A0 l0.length l0) (hc0 : l0.length ≤ c0) (hb : laws_big.f l0 = some true) :
    Calls Try.prog 3 #[.slice A0 l0.length c0] w fun e w' => e = .returned (.bool true) ∧ Below w.heap.size w w' := by
  have HR0 := Aside0.mk hr0
  have HC0 := Aside0.mk hc0
  have HBG := Aside0.mk hb
  clear hr0 hc0 hb
  go_enter Try.func3, Try.ntmps3
  go_wp2_with (go_at_call 4; (with_reducible refine (laws_big.calls _ _ l0 true _ HR0.out HC0.out HBG.out).mono ?_); rintro e w' ⟨rfl, ⟨nd, rfl⟩⟩)
  go_ret
  exact ⟨rfl, upE⟩
/-- What is asked of the plain functions. -/
def laws_FnBytes.Pure : Prop := ∀ (l0 : List Int), l0.length ≤ 1048576 → (∀ x ∈ l0, (Lit.int .u8 x).wf = true) → ∃ k, laws_FnBytes.Said k l0
theorem laws_FnBytes.walk (P : laws_FnBytes.Pure) (a0 : Option Addr) (len0 cap0 : Nat) (z0 : List Int) (w : World) (w0 : (a0 = none ∧ len0 = 0 ∧ cap0 = 0 ∧ z0 = []) ∨ ∃ x, a0 = some x ∧ len0 ≤ cap0 ∧ cap0 ≤ maxLen ∧ z0.length = cap0 ∧ (∀ i, i < z0.length → w.cell? (x.add i) = some (.int .u8 (z0.getD i 0))) ∧ ∀ n ∈ z0, (Lit.int .u8 n).wf = true) (y0 : len0 * 1 ≤ 140737488351232) :
    Calls Try.prog 3 #[.slice a0 len0 cap0] w fun e w' => e = .returned (.bool true) ∧ Below w.heap.size w w' := by
  obtain ⟨l0, rfl, hr0, hm0, hw0, hc0⟩ := ReadsInt.ofRowC w0
  have hC := Kd.C_of_reads (d := (0 : Int)) (h1 := fun _ => rfl) hr0
  by_cases hb : (l0.length : Int) > 1048576
  · exact laws_FnBytes.part0 a0 cap0 l0 w hC hc0 (by simp [laws_big.f, hb])
  · obtain ⟨k, h⟩ := P l0 (by omega) hw0
    exact laws_FnBytes.part1 k a0 cap0 l0 w hC hc0 (by simp only [laws_big.f, decide_eq_false hb]) h
end Go.Proofs.Ytpkokfffjgdjoaa.HFnBytes
