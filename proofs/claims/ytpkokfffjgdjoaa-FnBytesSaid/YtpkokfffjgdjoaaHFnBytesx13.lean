/- Functions of the program and what each call of them comes to, for the law FnBytes; written by a program of this session. No condition beyond those of each theorem. -/
import Derived.Test.YtpkokfffjgdjoaaHFnBytesx0
import Derived.Test.YtpkokfffjgdjoaaHFnBytesx21
import Derived.Test.YtpkokfffjgdjoaaHFnBytesx2
import Derived.Test.YtpkokfffjgdjoaaHFnBytesx3
import Derived.Test.YtpkokfffjgdjoaaHFnBytesx12
namespace Go.Proofs.Ytpkokfffjgdjoaa.HFnBytes
open Go.RowKit Go.Proofs.YtpkokfffjgdjoaaW.PrintWords Go.Proofs.YtpkokfffjgdjoaaW.PrintLast Go.Proofs.YtpkokfffjgdjoaaW.PrintMore
attribute [local go_sem] max2_int min2_int max_two min_two max_three min_three max_four min_four   -- for this text's walks alone
open List renaming setIfInBounds_toArray → s1_, set_cons_zero → s2_, set_cons_succ → s3_
set_option linter.unusedVariables false
set_option linter.unusedSimpArgs false

/-! ### spec_l7Any: function 32 -/
def spec_l7Any.f (k : Nat) (s0_0 : List Int) (s0_1 : Int) (s0_2 : Int) : Option (List Int × List Int × List Int × Int × Int) := (spec_l7Cost.f k s0_0 s0_1 s0_2).bind fun bt480 => ((spec_l1Below.f s0_0 bt480.2.2.2.1 bt480.2.2.2.2 14).bind fun bt492 => (if bt492.1 = 0 then ((spec_l1Below.f s0_0 bt492.2.1 bt492.2.2 6).bind fun bt495 => ((spec_l1PickInt.f s0_0 bt495.2.1 bt495.2.2 (([(-1), 1001, 1000] : List Int))).bind fun bt501 => (if 0 ≤ bt495.1 then (if bt495.1 < (bt480.1.length : Int) then (some ((bt480.1.set (bt495.1 : Int).toNat bt501.1), bt480.2.1, bt480.2.2.1, bt501.2.1, bt501.2.2)) else (none)) else (none)))) else (if bt492.1 = 1 then ((spec_l1Below.f s0_0 bt492.2.1 bt492.2.2 36).bind fun bt505 => (if 0 ≤ bt505.1 then (if bt505.1 < (bt480.2.2.1.length : Int) then (some (bt480.1, bt480.2.1, (bt480.2.2.1.set (bt505.1 : Int).toNat 5), bt505.2.1, bt505.2.2)) else (none)) else (none))) else (if bt492.1 = 2 then (if 1 ≤ (bt480.2.1.length : Int) then (some (bt480.1, (bt480.2.1.drop (1 : Int).toNat), bt480.2.2.1, bt492.2.1, bt492.2.2)) else (none)) else (some (bt480.1, bt480.2.1, bt480.2.2.1, bt492.2.1, bt492.2.2))))))
theorem spec_l7Any.mono : ∀ a0 a1 a2 k, LeO (spec_l7Any.f k a0 a1 a2) (spec_l7Any.f (k + 1) a0 a1 a2) := by
 intro a0 a1 a2 k
 unfold spec_l7Any.f
 repeat' first
   | (with_reducible exact spec_l7Cost.mono _ _ _ _)
   | (with_reducible exact LeO.refl _)
   | (with_reducible exact LeO.none _)
   | (with_reducible refine LeO.ite ?_ ?_)
   | (with_reducible refine LeO.bind ?_ (fun _ => ?_))
   | exact spec_l7Cost.mono _ _ _ _
   | exact LeO.none _
   | refine LeO.ite ?_ ?_
   | refine LeO.bind ?_ (fun _ => ?_)
section
variable {w0 w W W1 : World} {g g2 gx c : Nat} {v0 v1 v2 : Value} {d i r s0 l : List Int} {s1 s2 : Int} {cs : Array Value} {A : Option Addr} {ok : Nat → Prop} {B : Nat}
/-- A row that is only read, in blocks younger than w. -/
abbrev VV (W w : World) (A : Option Addr) (c : Nat) (l : List Int) : Prop := Kd.V (Kd.int .i64) 3 W 0 (fun k => w.heap.size ≤ k) (.slice A l.length c) l
theorem vS {n : Nat} (h : Kd.R (Kd.int .i64) 3 W w.heap.size ok (.slice A n c) l) : VV W w A c l := by
  obtain ⟨rfl, _⟩ := Kd.R_reads' h
  exact Kd.R_V (Kd.R_mono (Kd.R_bound h) (fun k hk => hk.2.1))
theorem fin3 (hI : IsS66 w0 W g s0 s1 s2) (hB : Below w0.heap.size w0 W) (hK : KeepBut w W g none) (z : W.heap[g2]? = some (.cells #[.slice none 0 0, .slice none 0 0, .slice none 0 0] 35 (0, 0))) (m : w.heap.size ≤ g2) (L : w0.heap.size ≤ w.heap.size) (hw : Wrote W W1 g2 cs) : IsS66 w0 W1 g s0 s1 s2 ∧ Below w0.heap.size w0 W1 ∧ KeepBut w W1 g none := by
  obtain ⟨A0, c0, hg, hI⟩ := hI
  refine ⟨⟨A0, c0, hw.far (Ne.symm (neT hg z (by decide))) hg, hI⟩, hw.below hB (Nat.le_trans L m), ⟨Nat.le_trans hK.1 hw.sz, fun k hk hne hn => ?_⟩⟩
  have h1 := hK.2 k hk hne hn
  cases ho : w.heap[k]? with
  | none => have h3 := Array.getElem?_eq_none_iff.1 ho; omega
  | some o => exact hw.far (Nat.ne_of_lt (Nat.lt_of_lt_of_le hk m)) (h1.trans ho)
theorem wroteF (hw : Wrote W W1 g2 cs) (h : Kd.F (Kd.int .i64) W (fun k => ok k ∧ k ≠ g2) A l.length l) : Kd.F (Kd.int .i64) W1 (fun k => ok k ∧ k ≠ g2) A l.length l :=
  Kd.F_step h (fun k hk hlt => by
    cases ho : W.heap[k]? with
    | none => have h3 := Array.getElem?_eq_none_iff.1 ho; omega
    | some o => exact hw.far hk.2 ho)
theorem cut1 (hF : Kd.F (Kd.int .i64) W ok A l.length l) (hr : l.length ≤ c) (h1 : 1 ≤ (l.length : Int)) : ∃ A' c', (∀ w, (Instr.slice 33 (.slice A l.length c) (some (.int .i64 1)) none none).run Try.prog w = .ok (.slice A' (l.drop 1).length c') w) ∧ Kd.F (Kd.int .i64) W ok A' (l.drop 1).length (l.drop 1) ∧ (l.drop 1).length ≤ c' := by
  obtain ⟨i0, hi, _, hsz, _⟩ := info_parts info3
  have e1 : (l.drop 1).length = l.length - (1 : Int).toNat := by rw [List.length_drop]; omega
  have h2 := cut_from (P := Try.prog) 33 3 .i64 Try.underlying33 hi 1 hsz A l.length c 1 (by omega) h1
  rw [← e1] at h2
  exact ⟨_, _, h2, Kd.F_cut (m := 1) hF (by omega) hr, by omega⟩
end
theorem Kd.C_keepNew {W W1 : World} {g p n : Nat} {xs : List Int} (h : Kd.C (Kd.int .i64) W (some ⟨p, 0, none⟩) n xs) (hk : KeepBut W W1 g none) (hp : p ≠ g) : Kd.C (Kd.int .i64) W1 (some ⟨p, 0, none⟩) n xs := by
  refine Kd.C_of_reads (d := (0 : Int)) (h1 := fun _ => rfl) ?_
  obtain ⟨h1, h2, h3⟩ := Kd.reads_of_C (d := (0 : Int)) h
  refine ⟨h1, h2, fun hn => ?_⟩
  obtain ⟨ad, e, hc⟩ := h3 hn
  obtain rfl := Option.some.inj e
  refine ⟨_, rfl, fun j hj => ?_⟩
  have h4 := hc j hj
  have h5 : ((⟨p, 0, none⟩ : Addr).add j).block = p := by unfold Addr.add; split <;> rfl
  have h6 := World.block_lt_of_cell? W _ h4
  rw [h5] at h6
  rw [← h4]
  exact World.cell?_of_block (by rw [h5]; exact hk.2 p h6 hp (by simp))
theorem spec_l7Any.tab4 : rtab .any (opsOf Try.f32 4) = (true, [([], []), ([0], [0]), ([], []), ([2], [2]), ([], []), ([], []), ([4, 5, 3], [4, 5]), ([1, 3, 0, 1, 2, 3, 4, 5, 6], [1, 3]), ([7, 6, 6, 0, 1, 2, 3, 4, 5, 6], [6, 7])]) := by kernel_rfl
theorem spec_l7Any.w4 : waitsOk [([], []), ([0], [0]), ([], []), ([2], [2]), ([], []), ([], []), ([4, 5, 3], [4, 5]), ([1, 3, 0, 1, 2, 3, 4, 5, 6], [1, 3]), ([7, 6, 6, 0, 1, 2, 3, 4, 5, 6], [6, 7])] [0, 1, 0, 4, 0, 0, 60, 127, 255] = true := by kernel_rfl
theorem spec_l7Any.tab6 : rtab .any (opsOf Try.f32 6) = (true, [([], []), ([0], [0]), ([], []), ([2], [2]), ([1, 3, 0, 1, 2, 3], [1, 3]), ([4, 3, 0, 1, 2, 3], [4])]) := by kernel_rfl
theorem spec_l7Any.w6 : waitsOk [([], []), ([0], [0]), ([], []), ([2], [2]), ([1, 3, 0, 1, 2, 3], [1, 3]), ([4, 3, 0, 1, 2, 3], [4])] [0, 1, 0, 4, 15, 31] = true := by kernel_rfl
set_option maxHeartbeats 8000000 in
set_option maxRecDepth 100000 in
theorem spec_l7Any.calls (k : Nat) (g : Nat) (s0_0 : List Int) (s0_1 : Int) (s0_2 : Int) (r1 : List Int) (r2 : List Int) (r3 : List Int) (r4 : Int) (r5 : Int) (w0 w : World) (hI : IsS66 w0 w g s0_0 s0_1 s0_2) (hB : Below w0.heap.size w0 w) (h : spec_l7Any.f k s0_0 s0_1 s0_2 = some (r1, r2, r3, r4, r5)) :
    Calls Try.prog 32 #[.pointer (some ⟨g, 0, none⟩)] w fun e w' => ∃ A0 c0 A1 c1 A2 c2, e = .returned (.agg #[.slice A0 r1.length c0, .slice A1 r2.length c1, .slice A2 r3.length c2]) ∧ VV w' w A0 c0 r1 ∧ VV w' w A1 c1 r2 ∧ VV w' w A2 c2 r3 ∧ IsS66 w0 w' g s0_0 r4 r5 ∧ Below w0.heap.size w0 w' ∧ KeepBut w w' g none := by
  have hu35 := Try.underlying35
  obtain ⟨⟨d, i, r, a1, a2⟩, A1, H⟩ := bindS h
  dsimp only at H
  obtain ⟨⟨x, s1, s2⟩, A2, H⟩ := bindS H
  dsimp only at H
  replace A1 := Aside0.mk A1
  replace A2 := Aside0.mk A2
  have HI := Aside0.mk hI
  have HB := Aside0.mk hB
  have HH := Aside0.mk H
  clear h H hI hB
  go_enter Try.func32, Try.ntmps32
  go_upto_region 3 with (first
    | (go_at_call 37; (with_reducible refine (spec_l7Cost.calls k g s0_0 _ _ d i r a1 a2 w0 _ (IsS66.below HI.out upE) (below_step HB.out upE) A1.out).mono ?_); rintro _ w1 ⟨v0, v1, v2, rfl, q0, q1, q2, hI, hB, hk⟩; obtain ⟨B0, c0, rfl⟩ := Kd.R_slice q0; obtain ⟨B1, c1, rfl⟩ := Kd.R_slice q1; obtain ⟨B2, c2, rfl⟩ := Kd.R_slice q2; have HI1 := Aside0.mk hI; have HB1 := Aside0.mk hB; have HK1 := Aside0.mk hk; have Q0 := Aside0.mk q0; have Q1 := Aside0.mk q1; have Q2 := Aside0.mk q2; clear q0 q1 q2 hI hB hk)
    | (go_at_call 38; have hz : w1.heap[w.heap.size]? = some (.cells #[.slice none 0 0, .slice none 0 0, .slice none 0 0] 35 (0, 0)) := (HK1.out.2 w.heap.size (by rw [World.size_alloc]; exact Nat.lt_succ_self _) (Nat.ne_of_gt HI.out.lt) (by simp)).trans (blk_new w _); have hL : w.heap.size ≤ w1.heap.size := Nat.le_trans (below_size (upE : Below w.heap.size w (w.alloc (.cells #[.slice none 0 0, .slice none 0 0, .slice none 0 0] 35 (0, 0))))) HK1.out.1; have ST := Aside0.mk (St.mk (w := w) (v0 := .slice B0 d.length c0) (v1 := .slice B1 i.length c1) (v2 := .slice B2 r.length c2) (HI1.out.alloc (.cells #[.slice B0 d.length c0, .slice B1 i.length c1, .slice B2 r.length c2] 35 (0, 0))) (below_alloc HB1.out _) (keep_alloc (KeepBut.trans (KeepBut.of_below (below_alloc (Below.refl _ _) _) g none) HK1.out (.inl rfl)) _) ⟨blk_new w1 _, Kd.R_alloc (Kd.R_lower Q0.out (below_size upE)) _, Kd.R_alloc (Kd.R_lower Q1.out (below_size upE)) _, Kd.R_alloc (Kd.R_lower Q2.out (below_size upE)) _, hL⟩ (blk_alloc hz _) (Nat.ne_of_gt (blk_lt hz)) (Nat.le_refl _) (below_size HB.out)); clear hz hL; (with_reducible refine (spec_l1Below.calls g s0_0 a1 a2 14 x s1 s2 w0 _ ST.out.I ST.out.B A2.out).mono ?_); rintro _ w2 ⟨rfl, hI, hB, hk⟩; replace ST := Aside0.mk (ST.out.call hI hB hk); clear hI hB hk))
  clear HI1 HB1 HK1 Q0 Q1 Q2
  have H := HH.out
  clear HH
  by_cases c0 : x = 0
  · rw [if_pos c0] at H
    have c0b : (x == 0) = true := beq_iff_eq.mpr c0
    clear c0
    obtain ⟨⟨j, t1, t2⟩, A3, H⟩ := bindS H
    dsimp only at H
    obtain ⟨⟨y, t3, t4⟩, A4, H⟩ := bindS H
    dsimp only at H
    by_cases c3 : 0 ≤ j
    case neg => rw [if_neg c3] at H; cases H
    rw [if_pos c3] at H
    by_cases c4 : j < (d.length : Int)
    case neg => rw [if_neg c4] at H; cases H
    rw [if_pos c4] at H
    obtain ⟨rfl, rfl, rfl, rfl, rfl⟩ : d.set j.toNat y = r1 ∧ i = r2 ∧ r = r3 ∧ t3 = r4 ∧ t4 = r5 := by simpa using H
    replace A3 := Aside0.mk A3
    replace A4 := Aside0.mk A4
    have c3' := eq_true c3
    have c4' := eq_true c4
    clear H
    obtain ⟨b, c, e_, _⟩ := Kd.R_form ST.out.X.r0 (by omega)
    rw [e_] at ST
    have e0 := ST.out.c0
    injection e_ with e_ _ e2_
    subst e_; subst e2_
    go_wp2
    refine start_ (n := 9) (S := fun w' => w'.cell? ⟨w1.heap.size, 0, none⟩ = some (.slice (some ⟨b, 0, none⟩) d.length c0)) (ds := [8]) (bits 9 0) (by kernel_rfl) rfl rfl e0 (fun hHeld => ?_)
    refine with_tabW spec_l7Any.tab4 spec_l7Any.w4 (fun HT_ HW_ => ?_)
    replace ST := Aside0.mk (ST.out.below (below_drew1 (Below.refl _ _)))
    generalize World.drew _ = w3 at ST hHeld ⊢
    refine purA 0 10 (bits 9 1) HT_.out ?_
    refine purA 2 12 (bits 9 5) HT_.out ?_
    refine purA 4 14 (bits 9 21) HT_.out ?_
    refine takA 1 11 (bits 9 23) HT_.out HW_.out hHeld ?_
    refine join_ (σ := Nat) 3 (bits 9 63) (fun p => [(13, .int .i64 j), (15, .slice (some ⟨p, 0, none⟩) 3 3)]) (fun p w4 => St w0 w w4 g w.heap.size w1.heap.size s0_0 t1 t2 (.slice (some ⟨b, 0, none⟩) d.length c0) (.slice B1 i.length c1) (.slice B2 r.length c2) d i r ∧ Kd.C (Kd.int .i64) w4 (some ⟨p, 0, none⟩) ([(-1), 1001, 1000] : List Int).length ([(-1), 1001, 1000] : List Int) ∧ p ≠ g) ?_ (fun hfin => ?_)
    · clear ST hHeld e0
      rintro p w4 ⟨hs, hc, hp⟩
      have ST := Aside0.mk hs
      have HC := Aside0.mk hc
      have HP := Aside0.mk hp
      clear hs hc hp
      simp only [putAll, Act.put, List.setIfInBounds_toArray, List.set_cons_zero, List.set_cons_succ]
      refine oneKS 6 (some 16) (bits 9 127) HT_.out (by decide) (fun K hK => ?_)
      refine goes_ Try.func45 (by kernel_rfl) rfl #[.pointer (some ⟨g, 0, none⟩), .slice (some ⟨p, 0, none⟩) ([(-1), 1001, 1000] : List Int).length 3] (by rfl) rfl rfl (by simp only [List.map_toArray, List.map_cons, List.map_nil]; rfl) ?_
      (with_reducible refine (spec_l1PickInt.calls g s0_0 _ _ _ _ ([(-1), 1001, 1000] : List Int) y t3 t4 w0 _ ST.out.I ST.out.B HC.out (by decide) ?hf A4.out).mono ?_)
      case hf => (rintro ad e _; cases e; exact HP.out)
      rintro _ w5 ⟨rfl, hI, hB, hk⟩
      replace ST := Aside0.mk (ST.out.call hI hB hk)
      clear hI hB hk
      refine ⟨_, rfl, hK _ _ ST.out.c0 (fun hHeld => normA ?_)⟩
      clear hK
      refine purA 7 17 (bits 9 255) HT_.out ?_
      obtain ⟨hx, hf⟩ := Kd.R_celln 0 ST.out.X.r0 j c3 c4
      refine lastS 8 (w1 := w5.setCell ⟨b, j.toNat, none⟩ (.int .i64 y)) (bits 9 511) HT_.out (by decide) rfl rfl (by rfl) (by go_simp) ?_
      refine done_ (done_of HT_.out (by kernel_rfl)) ?_
      replace ST := Aside0.mk (ST.out.set0 j y)
      clear hHeld hx hf HT_ HW_ c3 c4 c3' c4' HC HP
      go_wp2_with (first | ((with_reducible refine gate_dst (N := 31) rfl ?_); refine load3 rfl rfl rfl rfl ST.out.X.box ?_) | ((with_reducible refine gate_store (t := 35) (p := 2) rfl ?_); refine store3 rfl rfl rfl rfl rfl ST.out.z ?_; intro w6 hW; have W5 := Aside0.mk hW; clear hW))
      refine bodyPost_ret (results_cell_row rfl _ _ w.heap.size 35 _ (0, 0) _ rfl W5.out.blk Try.underlying35 rfl (by kernel_rfl)) rfl ?_
      have f := ST.out.fin W5.out
      exact ⟨_, _, _, _, _, _, by rw [List.length_set], vS f.1, vS f.2.1, vS f.2.2.1, f.2.2.2⟩
    · have HG := Aside0.mk ST.out.I.lt
      refine two_ (i := 3) (j := 5) (Ni := some 13) (Nj := some 15) (bits 9 31) (bits 9 55) rfl rfl rfl rfl (two_of HT_.out (by kernel_rfl)) (by decide) (by decide) (fun K hK => ?_) (fun K hK => ?_)
      · refine goes_ Try.func38 (by kernel_rfl) rfl #[.pointer (some ⟨g, 0, none⟩), .int .i64 6] (by rfl) rfl rfl (by simp only [List.map_toArray, List.map_cons, List.map_nil]; rfl) ?_
        (with_reducible refine (spec_l1Below.calls g s0_0 _ _ 6 _ _ _ w0 _ ST.out.I ST.out.B A3.out).mono ?_)
        rintro _ w4 ⟨rfl, hI, hB, hk⟩
        replace ST := Aside0.mk (ST.out.call hI hB hk)
        refine ⟨_, rfl, hK.out _ _ ST.out.c0 (fun hHeld => normA ?_)⟩
        have HG' := ST.out.I.lt
        replace ST := Aside0.mk (ST.out.below (below_alloc (Below.refl _ _) (.cells (([(-1), 1001, 1000] : List Int).map (Value.int .i64)).toArray 3 (0, 0))))
        refine oneVS 5 15 (w1 := w4.alloc (.cells (([(-1), 1001, 1000] : List Int).map (Value.int .i64)).toArray 3 (0, 0))) (bits 9 63) HT_.out (by decide) ST.out.c0 (fun hHeld => ?_)
        exact hfin w4.heap.size _ ⟨ST.out, litC w4 ([(-1), 1001, 1000] : List Int) (by decide), Nat.ne_of_gt HG'⟩
      · have hC := litC w3 ([(-1), 1001, 1000] : List Int) (by decide)
        replace ST := Aside0.mk (ST.out.below (below_alloc (Below.refl _ _) (.cells (([(-1), 1001, 1000] : List Int).map (Value.int .i64)).toArray 3 (0, 0))))
        refine evN 15 (by rfl) rfl (w1 := w3.alloc (.cells (([(-1), 1001, 1000] : List Int).map (Value.int .i64)).toArray 3 (0, 0))) (v := .slice (some ⟨w3.heap.size, 0, none⟩) 3 3) (by go_simp; first | done | rfl | (constructor <;> rfl)) ?_
        refine hK.out _ _ ST.out.c0 (fun hHeld => normA ?_)
        refine oneKS 3 (some 13) (bits 9 63) HT_.out (by decide) (fun K hK => ?_)
        refine goes_ Try.func38 (by kernel_rfl) rfl #[.pointer (some ⟨g, 0, none⟩), .int .i64 6] (by rfl) rfl rfl (by simp only [List.map_toArray, List.map_cons, List.map_nil]; rfl) ?_
        (with_reducible refine (spec_l1Below.calls g s0_0 _ _ 6 _ _ _ w0 _ ST.out.I ST.out.B A3.out).mono ?_)
        rintro _ w4 ⟨rfl, hI, hB, hk⟩
        replace ST := Aside0.mk (ST.out.call hI hB hk)
        refine ⟨_, rfl, hK _ _ ST.out.c0 (fun hHeld => normA ?_)⟩
        exact hfin w3.heap.size _ ⟨ST.out, Kd.C_keepNew hC hk (Nat.ne_of_gt HG.out), Nat.ne_of_gt HG.out⟩
  · have c0b : (x == 0) = false := beq_eq_false_iff_ne.mpr c0
    rw [if_neg c0] at H
    clear c0
    by_cases c1 : x = 1
    · rw [if_pos c1] at H
      have c1b : (x == 1) = true := beq_iff_eq.mpr c1
      clear c1
      obtain ⟨⟨j, t1, t2⟩, A3, H⟩ := bindS H
      dsimp only at H
      by_cases c3 : 0 ≤ j
      case neg => rw [if_neg c3] at H; cases H
      rw [if_pos c3] at H
      by_cases c4 : j < (r.length : Int)
      case neg => rw [if_neg c4] at H; cases H
      rw [if_pos c4] at H
      obtain ⟨rfl, rfl, rfl, rfl, rfl⟩ : d = r1 ∧ i = r2 ∧ r.set j.toNat 5 = r3 ∧ t1 = r4 ∧ t2 = r5 := by simpa using H
      replace A3 := Aside0.mk A3
      have c3' := eq_true c3
      have c4' := eq_true c4
      clear H
      obtain ⟨b, c, e_, _⟩ := Kd.R_form ST.out.X.r2 (by omega)
      rw [e_] at ST
      have e0 := ST.out.c2
      injection e_ with e_ _ e2_
      subst e_; subst e2_
      go_wp2
      refine start_ (n := 6) (S := fun w' => w'.cell? ⟨w1.heap.size, 2, none⟩ = some (.slice (some ⟨b, 0, none⟩) r.length c2)) (ds := [5]) (bits 6 0) (by kernel_rfl) rfl rfl e0 (fun hHeld => ?_)
      refine with_tabW spec_l7Any.tab6 spec_l7Any.w6 (fun HT_ HW_ => ?_)
      replace ST := Aside0.mk (ST.out.below (below_drew1 (Below.refl _ _)))
      generalize World.drew _ = w3 at ST hHeld ⊢
      refine purA 0 20 (bits 6 1) HT_.out ?_
      refine purA 2 22 (bits 6 5) HT_.out ?_
      refine takA 1 21 (bits 6 7) HT_.out HW_.out hHeld ?_
      refine oneKS 3 (some 23) (bits 6 15) HT_.out (by decide) (fun K hK => ?_)
      refine goes_ Try.func38 (by kernel_rfl) rfl #[.pointer (some ⟨g, 0, none⟩), .int .i64 36] (by rfl) rfl rfl (by simp only [List.map_toArray, List.map_cons, List.map_nil]; rfl) ?_
      (with_reducible refine (spec_l1Below.calls g s0_0 _ _ 36 _ _ _ w0 _ ST.out.I ST.out.B A3.out).mono ?_)
      rintro _ w4 ⟨rfl, hI, hB, hk⟩
      replace ST := Aside0.mk (ST.out.call hI hB hk)
      clear hI hB hk hHeld e0
      refine ⟨_, rfl, hK _ _ ST.out.c2 (fun hHeld => normA ?_)⟩
      clear hK
      refine purA 4 24 (bits 6 31) HT_.out ?_
      obtain ⟨hx, hf⟩ := Kd.R_celln 0 ST.out.X.r2 j c3 c4
      refine lastS 5 (w1 := w4.setCell ⟨b, j.toNat, none⟩ (.int .i64 5)) (bits 6 63) HT_.out (by decide) rfl rfl (by rfl) (by go_simp) ?_
      refine done_ (done_of HT_.out (by kernel_rfl)) ?_
      replace ST := Aside0.mk (ST.out.set2 j 5)
      clear hHeld hx hf HT_ HW_ c3 c4 c3' c4'
      go_wp2_with (first | ((with_reducible refine gate_dst (N := 31) rfl ?_); refine load3 rfl rfl rfl rfl ST.out.X.box ?_) | ((with_reducible refine gate_store (t := 35) (p := 2) rfl ?_); refine store3 rfl rfl rfl rfl rfl ST.out.z ?_; intro w6 hW; have W5 := Aside0.mk hW; clear hW))
      refine bodyPost_ret (results_cell_row rfl _ _ w.heap.size 35 _ (0, 0) _ rfl W5.out.blk Try.underlying35 rfl (by kernel_rfl)) rfl ?_
      have f := ST.out.fin W5.out
      exact ⟨_, _, _, _, _, _, by rw [List.length_set], vS f.1, vS f.2.1, vS f.2.2.1, f.2.2.2⟩
    · have c1b : (x == 1) = false := beq_eq_false_iff_ne.mpr c1
      rw [if_neg c1] at H
      clear c1
      by_cases c2 : x = 2
      · rw [if_pos c2] at H
        have c2b : (x == 2) = true := beq_iff_eq.mpr c2
        clear c2
        by_cases c3 : 1 ≤ (i.length : Int)
        case neg => rw [if_neg c3] at H; cases H
        rw [if_pos c3] at H
        obtain ⟨rfl, rfl, rfl, rfl, rfl⟩ : d = r1 ∧ i.drop 1 = r2 ∧ r = r3 ∧ s1 = r4 ∧ s2 = r5 := by simpa using H
        clear H
        have X := ST.out.X
        obtain ⟨A', c', hcut, hF, hc'⟩ := cut1 (Kd.R_F (Kd.R_types (Kd.R_types (Kd.R_mono (Kd.R_bound X.r1) (fun k hk => hk.2.1)) X.box (by decide)) ST.out.z (by decide))) (Kd.R_reads' X.r1).2.1 c3
        have HF := Aside0.mk hF
        have HC := Aside0.mk hc'
        have e1 := ST.out.c1
        have f1 := blk_frozen X.box 1
        clear hF hc' X c3
        go_wp2_with (first | ((with_reducible refine gate_dst (N := 31) rfl ?_); refine load3 rfl rfl rfl rfl (blk_put ST.out.X.box 1 _ rfl) ?_) | ((with_reducible refine gate_store (t := 35) (p := 2) rfl ?_); refine store3 rfl rfl rfl rfl rfl (blk_far ST.out.z (Ne.symm ST.out.n) _) ?_; intro w6 hW; have W5 := Aside0.mk hW; clear hW))
        refine bodyPost_ret (results_cell_row rfl _ _ w.heap.size 35 _ (0, 0) _ rfl W5.out.blk Try.underlying35 rfl (by kernel_rfl)) rfl ?_
        obtain ⟨cs, hg⟩ := ST.out.blk
        exact ⟨_, _, _, _, _, _, by rw [List.length_drop], vS (W5.out.R (Kd.R_set ST.out.X.r0 ST.out.X.box (by decide) 1 _)), Kd.V_mk HC.out (Kd.F_mono (wroteF W5.out (Kd.F_far (p := ⟨w1.heap.size, 1, none⟩) HF.out (fun k hk => hk.1.2) _)) (fun k hk => hk.1.1)), vS (W5.out.R (Kd.R_set ST.out.X.r2 ST.out.X.box (by decide) 1 _)),
          fin3 (IsS66.far (p := ⟨w1.heap.size, 1, none⟩) ST.out.I (Ne.symm (neT hg ST.out.X.box (by decide))) _) (below_set ST.out.B (Nat.le_trans ST.out.L ST.out.X.ge)) (keep_far (p := ⟨w1.heap.size, 1, none⟩) ST.out.K ST.out.X.ge _) (blk_far ST.out.z (Ne.symm ST.out.n) _) ST.out.m ST.out.L W5.out⟩
      · rw [if_neg c2] at H
        have c2b : (x == 2) = false := beq_eq_false_iff_ne.mpr c2
        clear c2
        obtain ⟨rfl, rfl, rfl, rfl, rfl⟩ : d = r1 ∧ i = r2 ∧ r = r3 ∧ s1 = r4 ∧ s2 = r5 := by simpa using H
        clear H
        go_wp2_with (first | ((with_reducible refine gate_dst (N := 31) rfl ?_); refine load3 rfl rfl rfl rfl ST.out.X.box ?_) | ((with_reducible refine gate_store (t := 35) (p := 2) rfl ?_); refine store3 rfl rfl rfl rfl rfl ST.out.z ?_; intro w6 hW; have W5 := Aside0.mk hW; clear hW))
        refine bodyPost_ret (results_cell_row rfl _ _ w.heap.size 35 _ (0, 0) _ rfl W5.out.blk Try.underlying35 rfl (by kernel_rfl)) rfl ?_
        have f := ST.out.fin W5.out
        exact ⟨_, _, _, _, _, _, rfl, vS f.1, vS f.2.1, vS f.2.2.1, f.2.2.2⟩

/-! ### spec_DrawPutCost: function 13 -/
def spec_DrawPutCost.f (k : Nat) (l0 : List Int) : Option (List Int × List Int × List Int) := (spec_l1New.f k l0).bind fun bt513 => ((spec_l7Any.f k bt513.1 bt513.2.1 bt513.2.2).bind fun bt517 => (some (bt517.1, bt517.2.1, bt517.2.2.1)))
theorem spec_DrawPutCost.mono : ∀ a0 k, LeO (spec_DrawPutCost.f k a0) (spec_DrawPutCost.f (k + 1) a0) := by
 intro a0 k
 unfold spec_DrawPutCost.f
 repeat' first
   | (with_reducible exact spec_l1New.mono _ _)
   | (with_reducible exact spec_l7Any.mono _ _ _ _)
   | (with_reducible exact LeO.refl _)
   | (with_reducible exact LeO.none _)
   | (with_reducible refine LeO.ite ?_ ?_)
   | (with_reducible refine LeO.bind ?_ (fun _ => ?_))
   | exact spec_l1New.mono _ _
   | exact spec_l7Any.mono _ _ _ _
   | exact LeO.none _
   | refine LeO.ite ?_ ?_
   | refine LeO.bind ?_ (fun _ => ?_)
set_option maxHeartbeats 8000000 in
set_option maxRecDepth 100000 in
theorem spec_DrawPutCost.calls (k : Nat) (A0 : Option Addr) (c0 : Nat) (l0 : List Int) (r1 : List Int) (r2 : List Int) (r3 : List Int) (w : World) (hr0 : Kd.C (Kd.int .u8) w A0 l0.length l0) (hc0 : l0.length ≤ c0) (h : spec_DrawPutCost.f k l0 = some (r1, r2, r3)) :
    Calls Try.prog 13 #[.slice A0 l0.length c0] w fun e w' => ∃ A0 c0 A1 c1 A2 c2, e = .returned (.agg #[.slice A0 r1.length c0, .slice A1 r2.length c1, .slice A2 r3.length c2]) ∧ Kd.V (Kd.int .i64) 3 w' 0 (fun _ => True) (.slice A0 r1.length c0) r1 ∧ Kd.V (Kd.int .i64) 3 w' 0 (fun _ => True) (.slice A1 r2.length c1) r2 ∧ Kd.V (Kd.int .i64) 3 w' 0 (fun _ => True) (.slice A2 r3.length c2) r3 ∧ Below w.heap.size w w' := by
  have hu35 := Try.underlying35
  obtain ⟨⟨s0, s1, s2⟩, A1, H⟩ := bindS h
  dsimp only at H
  obtain ⟨⟨d, i, r, t1, t2⟩, A2, H⟩ := bindS H
  obtain ⟨rfl, rfl, rfl⟩ : d = r1 ∧ i = r2 ∧ r = r3 := by simpa using H
  replace A1 := Aside0.mk A1
  replace A2 := Aside0.mk A2
  have HR0 := Aside0.mk hr0
  have HC0 := Aside0.mk hc0
  clear h H hr0 hc0
  go_enter Try.func13, Try.ntmps13
  go_wp2_with (first
    | (go_at_call 22; (with_reducible refine (spec_l1New.calls k _ _ l0 s0 s1 s2 w _ upE HR0.out HC0.out A1.out).mono ?_); rintro _ w1 ⟨g, rfl, hI, hB, hb⟩; have HI := Aside0.mk hI; have HB := Aside0.mk hB; have HE := Aside0.mk hb; clear hI hB hb)
    | (go_at_call 32; (with_reducible refine (spec_l7Any.calls k g s0 s1 s2 d i r t1 t2 w _ HI.out HB.out A2.out).mono ?_); rintro _ w2 ⟨B0, d0, B1, d1, B2, d2, rfl, q0, q1, q2, hI, hB, hk⟩; have Q0 := Aside0.mk q0; have Q1 := Aside0.mk q1; have Q2 := Aside0.mk q2; have HB2 := Aside0.mk hB; have hz := blk_below (blk_new w (.cells #[.slice none 0 0, .slice none 0 0, .slice none 0 0] 35 (0, 0))) HE.out; have HZ := Aside0.mk ((hk.2 _ (blk_lt hz) (by obtain ⟨_, _, hg, _⟩ := hI; obtain ⟨_, _, hg', _⟩ := HI.out; exact neT hg' hz (by decide)) (by simp)).trans hz); have HL := Aside0.mk (blk_lt hz); clear q0 q1 q2 hI hB hk hz)
    | ((with_reducible refine gate_store (t := 35) (p := 2) rfl ?_); refine store3 rfl rfl rfl rfl rfl HZ.out ?_; intro w5 hW; have W5 := Aside0.mk hW; clear hW))
  refine bodyPost_ret (results_cell_row rfl _ _ w.heap.size 35 _ (0, 0) _ rfl W5.out.blk Try.underlying35 rfl (by kernel_rfl)) rfl ?_
  have f : ∀ {A : Option Addr} {c : Nat} {l : List Int}, VV w2 w1 A c l → Kd.V (Kd.int .i64) 3 w5 0 (fun _ => True) (.slice A l.length c) l := fun h => Kd.V_map h (fun _ hf => Kd.F_mono (wroteF W5.out (Kd.F_mono hf (fun k hk => ⟨hk, Nat.ne_of_gt (Nat.lt_of_lt_of_le HL.out hk)⟩))) (fun _ _ => trivial))
  exact ⟨_, _, _, _, _, _, rfl, f Q0.out, f Q1.out, f Q2.out, W5.out.below HB2.out (Nat.le_refl _)⟩

/-! ### slices_Clone_int_int: function 33 -/
def slices_Clone_int_int.f (l0 : List Int) : Option (List Int) := if l0.length < 17592186044416 then some l0 else none
theorem slices_Clone.info : (Try.prog.info? 3).map (fun i => (i.zero, i.size, i.bytes)) = some (some (.int .i64 0), 1, 8) := by kernel_rfl
set_option maxHeartbeats 1000000 in
set_option maxRecDepth 100000 in
theorem slices_Clone_int_int.calls (A0 : Option Addr) (c0 : Nat) (l0 : List Int) (r : List Int) (w : World) (hr0 : Kd.C (Kd.int .i64) w A0 l0.length l0) (hc0 : l0.length ≤ c0) (h : slices_Clone_int_int.f l0 = some r) :
  Calls Try.prog 33 #[.slice A0 l0.length c0] w fun e w' => ∃ v0_ : Value, e = .returned (v0_) ∧ Kd.R (Kd.int .i64) 3 w' w.heap.size (fun _ => True) v0_ r ∧ Below w.heap.size w w' := by
 have q22 : ∀ (w : World) (a : Option Addr) (n c n' c' : Nat), (binOp .eql 33 (.slice a n c) (.slice none n' c')).run Try.prog w = .ok (.bool a.isNone) w := fun w a n c n' c' => Lib.run_eql_slice_nil w _ _ a n c n' c' Try.underlying33
 unfold slices_Clone_int_int.f at h
 by_cases c : l0.length < 17592186044416
 ·rw [if_pos c] at h
  obtain rfl := Option.some.inj h
  clear h; have HN := Aside0.mk c; have HR0 := Aside0.mk hr0; have HC0 := Aside0.mk hc0; have HB := Aside0.mk (Below.refl w.heap.size w)
  cases A0 with
  | none =>
   have hl : l0.length = 0 := by
    by_cases c0' : 0 < l0.length
    ·obtain ⟨ad, e, _⟩ := (Kd.reads_of_C (d := (0 : Int)) hr0).2.2 c0'
     cases e
    ·omega
   have hn : l0 = [] := List.length_eq_zero_iff.1 hl
   clear hr0 hc0 c
   go_enter Try.func33, Try.ntmps33
   go_wp2
   go_ret
   exact ⟨_, rfl, by rw [hn]; exact Kd.R_nil _ _ _ _ _, Below.refl _ _⟩
  | some ad =>
   clear hr0 hc0 c
   go_enter Try.func33, Try.ntmps33
   go_wp2_with (first | ((with_reducible refine gate_dst (N := 5) rfl ?_); refine Kd.R_lit (Kd.int .i64) _ 3 ?hg (N := 5) ?hd (xs := ([] : List Int)) (inner := []) (ok := fun _ => True) (okp := fun _ => True) ?hr ?hp (fun _ hk => hk) trivial (Below.refl _ _) (Nat.le_refl _) (by simp) ?_; (case hd => rfl); (case hg => rfl); (case hr => first | (go_simp; done) | (go_simp; rfl)); (case hp => exact (Reps.none _ _)); intro v158 w5 ho6 hb hg_ hnew_; clear hg_ hnew_; have n0_ := Aside0.mk (Kd.R_lower ho6 (below_size (upB HB.out))); have n2_ := Aside0.mk (Kd.C_below HR0.out (below_step (upB HB.out) hb)); have n1_ := Aside0.mk (below_step (upB HB.out) hb); clear HB; have HO := n0_; have HB := n1_; have HR1 := n2_; clear n0_ n1_ n2_; clear hb ho6) | ((with_reducible refine gate_builtin (b := .append) (xs := #[.tmp 5, .tmp 6]) rfl ?_); at_builtin; refine Kd.R_append_row (Value.int .i64) (0 : Int) (h1 := fun _ => rfl) (w0 := w) w.heap.size rfl (.tmp 5) (.tmp 6) 33 3 (.int .i64 0) 8 rfl Try.underlying33 slices_Clone.info rfl (by omega) _ ([] : List Int) l0 (some ad) l0.length c0 (fun _ => True) rfl rfl (fun _ _ => trivial) ?aO ?aR ?aB ?aS ?aL ?_; (case aO => exact (upR HO.out)); (case aR => exact (by repeat (first | exact HR1.out | (with_reducible refine Kd.C_alloc ?_ _) | (with_reducible refine Kd.C_drewN ?_ _) | (with_reducible refine Kd.C_drew ?_)))); (case aB => exact (upB HB.out)); (case aS => exact (below_size (upB HB.out))); (case aL => have := HN.out; simp only [List.length_nil]; omega); intro v165 w16 ho hb hg hat; have n0_ := Aside0.mk (hb); have n1_ := Aside0.mk (ho); clear HB; clear HO; have HB := n0_; have HO := n1_; clear n0_ n1_; clear ho hb hg hat) | fail)
   go_ret
   exact ⟨_, rfl, (upR HO.out), (upB HB.out)⟩
 ·rw [if_neg c] at h
  cases h

end Go.Proofs.Ytpkokfffjgdjoaa.HFnBytes
