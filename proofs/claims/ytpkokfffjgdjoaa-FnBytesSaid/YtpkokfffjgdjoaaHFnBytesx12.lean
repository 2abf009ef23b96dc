/- Functions of the program and what each call of them comes to, for the law FnBytes; written by a program of this session. No condition beyond those of each theorem. -/
import Derived.Test.YtpkokfffjgdjoaaHFnBytesx0
import Derived.Test.YtpkokfffjgdjoaaHFnBytesx21
import Derived.Test.YtpkokfffjgdjoaaHFnBytesx2
import Derived.Test.YtpkokfffjgdjoaaHFnBytesx11
namespace Go.Proofs.Ytpkokfffjgdjoaa.HFnBytes
open Go.RowKit Go.Proofs.YtpkokfffjgdjoaaW.PrintWords Go.Proofs.YtpkokfffjgdjoaaW.PrintLast Go.Proofs.YtpkokfffjgdjoaaW.PrintMore
attribute [local go_sem] max2_int min2_int max_two min_two max_three min_three max_four min_four   -- for this text's walks alone
open List renaming setIfInBounds_toArray → s1_, set_cons_zero → s2_, set_cons_succ → s3_
set_option linter.unusedVariables false
set_option linter.unusedSimpArgs false

/-! ### spec_l7Cost: function 37 -/
mutual
def spec_l7Cost.l0 : Nat → Int → List Int → Int → Int → List Int → List Int → List Int → Option (List Int × List Int × List Int × Int × Int)
 | 0, _, _, _, _, _, _, _ => none
 | k + 1, x4, x1000, x1001, x1002, x459000, x459001, x459002 => if x4 < (x459002.length : Int) then (if 0 ≤ x4 then (spec_l7Cost.l0 k (wrap64 (x4 + 1)) x1000 x1001 x1002 x459000 x459001 (x459002.set (x4 : Int).toNat (wrap64 ((rd x459002 x4) * 3)))) else (none)) else (some (x459000, x459001, x459002, x1001, x1002))
def spec_l7Cost.l1 : Nat → Int → List Int → Int → Int → List Int → List Int → List Int → Option (List Int × List Int × List Int × Int × Int)
 | 0, _, _, _, _, _, _, _ => none
 | k + 1, x5, x1000, x1001, x1002, x459000, x459001, x459002 => if x5 < 6 then ((spec_l1Below.f x1000 x1001 x1002 7).bind fun bt464 => (if 0 ≤ x5 then (if x5 < (x459000.length : Int) then ((spec_l1Below.f x1000 bt464.2.1 bt464.2.2 7).bind fun bt468 => (if x5 < (x459001.length : Int) then (spec_l7Cost.l2 k x5 0 x1000 bt468.2.1 bt468.2.2 (x459000.set (x5 : Int).toNat bt464.1) (x459001.set (x5 : Int).toNat bt468.1) x459002) else (none))) else (none)) else (none))) else (some (x459000, x459001, x459002, x1001, x1002))
def spec_l7Cost.l2 : Nat → Int → Int → List Int → Int → Int → List Int → List Int → List Int → Option (List Int × List Int × List Int × Int × Int)
 | 0, _, _, _, _, _, _, _, _ => none
 | k + 1, x5, x6, x1000, x1001, x1002, x459000, x459001, x459002 => if x6 < 6 then (if x5 = x6 then (spec_l7Cost.l2 k x5 (wrap64 (x6 + 1)) x1000 x1001 x1002 x459000 x459001 x459002) else ((spec_l1PickInt.f x1000 x1001 x1002 (([0, 1, 4, 9, 1000] : List Int))).bind fun bt475 => (if 0 ≤ (wrap64 ((wrap64 (x5 * 6)) + x6)) then (if (wrap64 ((wrap64 (x5 * 6)) + x6)) < (x459002.length : Int) then (spec_l7Cost.l2 k x5 (wrap64 (x6 + 1)) x1000 bt475.2.1 bt475.2.2 x459000 x459001 (x459002.set ((wrap64 ((wrap64 (x5 * 6)) + x6)) : Int).toNat bt475.1)) else (none)) else (none)))) else (spec_l7Cost.l1 k (wrap64 (x5 + 1)) x1000 x1001 x1002 x459000 x459001 x459002)
end
def spec_l7Cost.f (k : Nat) (s0_0 : List Int) (s0_1 : Int) (s0_2 : Int) : Option (List Int × List Int × List Int × Int × Int) := (spec_UnitCost.f k).bind fun bt449 => ((spec_l1Below.f s0_0 s0_1 s0_2 4).bind fun bt459 => (if bt459.1 = 0 then (some (bt449.1, bt449.2.1, bt449.2.2, bt459.2.1, bt459.2.2)) else (if bt459.1 = 1 then (spec_l7Cost.l0 k 0 s0_0 bt459.2.1 bt459.2.2 bt449.1 bt449.2.1 bt449.2.2) else (spec_l7Cost.l1 k 0 s0_0 bt459.2.1 bt459.2.2 bt449.1 bt449.2.1 bt449.2.2))))
theorem spec_l7Cost.mono_l : ∀ k, (∀ y0 y1 y2 y3 y4 y5 y6, LeO (spec_l7Cost.l0 k y0 y1 y2 y3 y4 y5 y6) (spec_l7Cost.l0 (k + 1) y0 y1 y2 y3 y4 y5 y6)) ∧ (∀ y0 y1 y2 y3 y4 y5 y6, LeO (spec_l7Cost.l1 k y0 y1 y2 y3 y4 y5 y6) (spec_l7Cost.l1 (k + 1) y0 y1 y2 y3 y4 y5 y6)) ∧ (∀ y0 y1 y2 y3 y4 y5 y6 y7, LeO (spec_l7Cost.l2 k y0 y1 y2 y3 y4 y5 y6 y7) (spec_l7Cost.l2 (k + 1) y0 y1 y2 y3 y4 y5 y6 y7))
 | 0 => ⟨fun _ _ _ _ _ _ _ r h => by simp [spec_l7Cost.l0] at h, fun _ _ _ _ _ _ _ r h => by simp [spec_l7Cost.l1] at h, fun _ _ _ _ _ _ _ _ r h => by simp [spec_l7Cost.l2] at h⟩
 | k + 1 => by
  obtain ⟨ih0, ih1, ih2⟩ := spec_l7Cost.mono_l k
  refine ⟨?_, ?_, ?_⟩
  ·intro y0 y1 y2 y3 y4 y5 y6
   unfold spec_l7Cost.l0
   repeat' first
   | (with_reducible exact ih0 _ _ _ _ _ _ _)
   | (with_reducible exact ih1 _ _ _ _ _ _ _)
   | (with_reducible exact ih2 _ _ _ _ _ _ _ _)
   | (with_reducible exact spec_UnitCost.mono _)
   | (with_reducible exact LeO.refl _)
   | (with_reducible exact LeO.none _)
   | (with_reducible refine LeO.ite ?_ ?_)
   | (with_reducible refine LeO.bind ?_ (fun _ => ?_))
   | exact ih0 _ _ _ _ _ _ _
   | exact ih1 _ _ _ _ _ _ _
   | exact ih2 _ _ _ _ _ _ _ _
   | exact spec_UnitCost.mono _
   | exact LeO.none _
   | refine LeO.ite ?_ ?_
   | refine LeO.bind ?_ (fun _ => ?_)
  ·intro y0 y1 y2 y3 y4 y5 y6
   unfold spec_l7Cost.l1
   repeat' first
   | (with_reducible exact ih0 _ _ _ _ _ _ _)
   | (with_reducible exact ih1 _ _ _ _ _ _ _)
   | (with_reducible exact ih2 _ _ _ _ _ _ _ _)
   | (with_reducible exact spec_UnitCost.mono _)
   | (with_reducible exact LeO.refl _)
   | (with_reducible exact LeO.none _)
   | (with_reducible refine LeO.ite ?_ ?_)
   | (with_reducible refine LeO.bind ?_ (fun _ => ?_))
   | exact ih0 _ _ _ _ _ _ _
   | exact ih1 _ _ _ _ _ _ _
   | exact ih2 _ _ _ _ _ _ _ _
   | exact spec_UnitCost.mono _
   | exact LeO.none _
   | refine LeO.ite ?_ ?_
   | refine LeO.bind ?_ (fun _ => ?_)
  ·intro y0 y1 y2 y3 y4 y5 y6 y7
   unfold spec_l7Cost.l2
   repeat' first
   | (with_reducible exact ih0 _ _ _ _ _ _ _)
   | (with_reducible exact ih1 _ _ _ _ _ _ _)
   | (with_reducible exact ih2 _ _ _ _ _ _ _ _)
   | (with_reducible exact spec_UnitCost.mono _)
   | (with_reducible exact LeO.refl _)
   | (with_reducible exact LeO.none _)
   | (with_reducible refine LeO.ite ?_ ?_)
   | (with_reducible refine LeO.bind ?_ (fun _ => ?_))
   | exact ih0 _ _ _ _ _ _ _
   | exact ih1 _ _ _ _ _ _ _
   | exact ih2 _ _ _ _ _ _ _ _
   | exact spec_UnitCost.mono _
   | exact LeO.none _
   | refine LeO.ite ?_ ?_
   | refine LeO.bind ?_ (fun _ => ?_)
theorem spec_l7Cost.mono : ∀ a0 a1 a2 k, LeO (spec_l7Cost.f k a0 a1 a2) (spec_l7Cost.f (k + 1) a0 a1 a2) := by
 intro a0 a1 a2 k
 obtain ⟨ih0, ih1, ih2⟩ := spec_l7Cost.mono_l k
 unfold spec_l7Cost.f
 repeat' first
   | (with_reducible exact ih0 _ _ _ _ _ _ _)
   | (with_reducible exact ih1 _ _ _ _ _ _ _)
   | (with_reducible exact ih2 _ _ _ _ _ _ _ _)
   | (with_reducible exact spec_UnitCost.mono _)
   | (with_reducible exact LeO.refl _)
   | (with_reducible exact LeO.none _)
   | (with_reducible refine LeO.ite ?_ ?_)
   | (with_reducible refine LeO.bind ?_ (fun _ => ?_))
   | exact ih0 _ _ _ _ _ _ _
   | exact ih1 _ _ _ _ _ _ _
   | exact ih2 _ _ _ _ _ _ _ _
   | exact spec_UnitCost.mono _
   | exact LeO.none _
   | refine LeO.ite ?_ ?_
   | refine LeO.bind ?_ (fun _ => ?_)
/-! ### A struct of three rows in memory, beside a state -/
structure X3 (B : Nat) (W : World) (gx : Nat) (v0 v1 v2 : Value) (d i r : List Int) : Prop where
  box : W.heap[gx]? = some (.cells #[v0, v1, v2] 35 (0, 0))
  r0 : Kd.R (Kd.int .i64) 3 W B (fun k => some k ≠ v1.ownBlock ∧ some k ≠ v2.ownBlock) v0 d
  r1 : Kd.R (Kd.int .i64) 3 W B (fun k => some k ≠ v0.ownBlock ∧ some k ≠ v2.ownBlock) v1 i
  r2 : Kd.R (Kd.int .i64) 3 W B (fun k => some k ≠ v0.ownBlock ∧ some k ≠ v1.ownBlock) v2 r
  ge : B ≤ gx
section
variable {B : Nat} {w0 w W W1 : World} {g g2 gx b n c : Nat} {v0 v1 v2 : Value} {d i r s0 : List Int} {s1 s2 s1' s2' : Int} {cs : Array Value}
theorem neT {t u : Nat} {cs' : Array Value} (h : W.heap[g]? = some (.cells cs t (0, 0))) (h' : W.heap[gx]? = some (.cells cs' u (0, 0))) (ht : t ≠ u) : gx ≠ g := by
  rintro rfl
  rw [h] at h'
  injection h' with h'
  injection h' with _ e
  exact ht e
theorem X3.below (h : X3 B W gx v0 v1 v2 d i r) (hb : Below W.heap.size W W1) : X3 B W1 gx v0 v1 v2 d i r := ⟨blk_below h.box hb, Kd.R_below h.r0 hb, Kd.R_below h.r1 hb, Kd.R_below h.r2 hb, h.ge⟩
theorem X3.keep (h : X3 B W gx v0 v1 v2 d i r) (hk : KeepBut W W1 g none) (hg : W.heap[g]? = some (.cells cs 66 (0, 0))) : X3 B W1 gx v0 v1 v2 d i r :=
  have f : ∀ {ok : Nat → Prop} {v : Value} {l : List Int}, Kd.R (Kd.int .i64) 3 W B ok v l → Kd.R (Kd.int .i64) 3 W1 B ok v l := fun h => Kd.R_mono (Kd.R_keep (Kd.R_types h hg (by decide)) hk (fun _ h => h.2)) (fun _ h => h.1)
  ⟨(hk.2 gx (blk_lt h.box) (neT hg h.box (by decide)) (by simp)).trans h.box, f h.r0, f h.r1, f h.r2, h.ge⟩
theorem farR {l : List Int} {v v' : Value} {ok : Nat → Prop} (h : Kd.R (Kd.int .i64) 3 W B ok v l) (hv : v' = .slice (some ⟨b, 0, none⟩) n c) (hok : ∀ k, ok k → some k ≠ v'.ownBlock) (j : Nat) (u : Value) : Kd.R (Kd.int .i64) 3 (W.setCell ⟨b, j, none⟩ u) B ok v l :=
  Kd.R_far (p := ⟨b, j, none⟩) h (fun k hk e => hok k hk (by rw [hv, e]; rfl)) u
theorem neB {t : Nat} {l : List Int} {ok : Nat → Prop} (h : Kd.R (Kd.int .i64) 3 W B ok (.slice (some ⟨b, 0, none⟩) n c) l) (hg : W.heap[gx]? = some (.cells cs t (0, 0))) (ht : 3 ≠ t) : gx ≠ b := fun e => Kd.R_ne h hg ht (by rw [e]; rfl)
theorem X3.set0 (h : X3 B W gx (.slice (some ⟨b, 0, none⟩) n c) v1 v2 d i r) (j : Int) (x : Int) : X3 B (W.setCell ⟨b, j.toNat, none⟩ (.int .i64 x)) gx (.slice (some ⟨b, 0, none⟩) n c) v1 v2 (d.set j.toNat x) i r :=
  ⟨blk_far h.box (neB h.r0 h.box (by decide)) _, Kd.R_putn h.r0 j x, farR h.r1 rfl (fun _ h => h.1) _ _, farR h.r2 rfl (fun _ h => h.1) _ _, h.ge⟩
theorem X3.set1 (h : X3 B W gx v0 (.slice (some ⟨b, 0, none⟩) n c) v2 d i r) (j : Int) (x : Int) : X3 B (W.setCell ⟨b, j.toNat, none⟩ (.int .i64 x)) gx v0 (.slice (some ⟨b, 0, none⟩) n c) v2 d (i.set j.toNat x) r :=
  ⟨blk_far h.box (neB h.r1 h.box (by decide)) _, farR h.r0 rfl (fun _ h => h.1) _ _, Kd.R_putn h.r1 j x, farR h.r2 rfl (fun _ h => h.2) _ _, h.ge⟩
theorem X3.set2 (h : X3 B W gx v0 v1 (.slice (some ⟨b, 0, none⟩) n c) d i r) (j : Int) (x : Int) : X3 B (W.setCell ⟨b, j.toNat, none⟩ (.int .i64 x)) gx v0 v1 (.slice (some ⟨b, 0, none⟩) n c) d i (r.set j.toNat x) :=
  ⟨blk_far h.box (neB h.r2 h.box (by decide)) _, farR h.r0 rfl (fun _ h => h.2) _ _, farR h.r1 rfl (fun _ h => h.2) _ _, Kd.R_putn h.r2 j x, h.ge⟩
structure St (w0 w W : World) (g g2 gx : Nat) (s0 : List Int) (s1 s2 : Int) (v0 v1 v2 : Value) (d i r : List Int) : Prop where
  I : IsS66 w0 W g s0 s1 s2
  B : Below w0.heap.size w0 W
  K : KeepBut w W g none
  X : X3 w.heap.size W gx v0 v1 v2 d i r
  z : W.heap[g2]? = some (.cells #[.slice none 0 0, .slice none 0 0, .slice none 0 0] 35 (0, 0))
  n : gx ≠ g2
  m : w.heap.size ≤ g2
  L : w0.heap.size ≤ w.heap.size
theorem St.blk (h : St w0 w W g g2 gx s0 s1 s2 v0 v1 v2 d i r) : ∃ cs, W.heap[g]? = some (.cells cs 66 (0, 0)) := by
  obtain ⟨A0, c0, h, _⟩ := h.I
  exact ⟨_, h⟩
theorem St.below (h : St w0 w W g g2 gx s0 s1 s2 v0 v1 v2 d i r) (hb : Below W.heap.size W W1) : St w0 w W1 g g2 gx s0 s1 s2 v0 v1 v2 d i r :=
  ⟨h.I.below hb, below_step h.B hb, KeepBut.trans h.K (KeepBut.of_below hb g none) (.inl rfl), h.X.below hb, blk_below h.z hb, h.n, h.m, h.L⟩
theorem St.call (h : St w0 w W g g2 gx s0 s1 s2 v0 v1 v2 d i r) (hI : IsS66 w0 W1 g s0 s1' s2') (hB : Below w0.heap.size w0 W1) (hk : KeepBut W W1 g none) : St w0 w W1 g g2 gx s0 s1' s2' v0 v1 v2 d i r := by
  obtain ⟨cs, hg⟩ := h.blk
  exact ⟨hI, hB, KeepBut.trans h.K hk (.inl rfl), h.X.keep hk hg, (hk.2 g2 (blk_lt h.z) (neT hg h.z (by decide)) (by simp)).trans h.z, h.n, h.m, h.L⟩
theorem St.setA {l : List Int} {ok : Nat → Prop} {d' i' r' : List Int} {v0' v1' v2' : Value} (h : St w0 w W g g2 gx s0 s1 s2 v0 v1 v2 d i r) (hr : Kd.R (Kd.int .i64) 3 W w.heap.size ok (.slice (some ⟨b, 0, none⟩) n c) l) (j : Nat) (u : Value) (hX : X3 w.heap.size (W.setCell ⟨b, j, none⟩ u) gx v0' v1' v2' d' i' r') :
    St w0 w (W.setCell ⟨b, j, none⟩ u) g g2 gx s0 s1 s2 v0' v1' v2' d' i' r' := by
  obtain ⟨cs, hg⟩ := h.blk
  have hb : w.heap.size ≤ b := Kd.R_base hr b rfl
  exact ⟨IsS66.far (p := ⟨b, j, none⟩) h.I (neB hr hg (by decide)) _, below_set h.B (Nat.le_trans h.L hb), keep_far (p := ⟨b, j, none⟩) h.K hb _, hX, blk_far h.z (neB hr h.z (by decide)) _, h.n, h.m, h.L⟩
theorem St.set0 (h : St w0 w W g g2 gx s0 s1 s2 (.slice (some ⟨b, 0, none⟩) n c) v1 v2 d i r) (j : Int) (x : Int) : St w0 w (W.setCell ⟨b, j.toNat, none⟩ (.int .i64 x)) g g2 gx s0 s1 s2 (.slice (some ⟨b, 0, none⟩) n c) v1 v2 (d.set j.toNat x) i r := h.setA h.X.r0 _ _ (h.X.set0 j x)
theorem St.set1 (h : St w0 w W g g2 gx s0 s1 s2 v0 (.slice (some ⟨b, 0, none⟩) n c) v2 d i r) (j : Int) (x : Int) : St w0 w (W.setCell ⟨b, j.toNat, none⟩ (.int .i64 x)) g g2 gx s0 s1 s2 v0 (.slice (some ⟨b, 0, none⟩) n c) v2 d (i.set j.toNat x) r := h.setA h.X.r1 _ _ (h.X.set1 j x)
theorem St.set2 (h : St w0 w W g g2 gx s0 s1 s2 v0 v1 (.slice (some ⟨b, 0, none⟩) n c) d i r) (j : Int) (x : Int) : St w0 w (W.setCell ⟨b, j.toNat, none⟩ (.int .i64 x)) g g2 gx s0 s1 s2 v0 v1 (.slice (some ⟨b, 0, none⟩) n c) d i (r.set j.toNat x) := h.setA h.X.r2 _ _ (h.X.set2 j x)
theorem St.c0 (h : St w0 w W g g2 gx s0 s1 s2 v0 v1 v2 d i r) : W.cell? ⟨gx, 0, none⟩ = some v0 := (blk_cell h.X.box 0).trans rfl
theorem St.c1 (h : St w0 w W g g2 gx s0 s1 s2 v0 v1 v2 d i r) : W.cell? ⟨gx, 1, none⟩ = some v1 := (blk_cell h.X.box 1).trans rfl
theorem St.c2 (h : St w0 w W g g2 gx s0 s1 s2 v0 v1 v2 d i r) : W.cell? ⟨gx, 2, none⟩ = some v2 := (blk_cell h.X.box 2).trans rfl
/-- What the function leaves, once the struct stands in its result's place. -/
theorem St.fin (h : St w0 w W g g2 gx s0 s1 s2 v0 v1 v2 d i r) (hw : Wrote W W1 g2 cs) : Kd.R (Kd.int .i64) 3 W1 w.heap.size (fun k => some k ≠ v1.ownBlock ∧ some k ≠ v2.ownBlock) v0 d ∧ Kd.R (Kd.int .i64) 3 W1 w.heap.size (fun k => some k ≠ v0.ownBlock ∧ some k ≠ v2.ownBlock) v1 i ∧ Kd.R (Kd.int .i64) 3 W1 w.heap.size (fun k => some k ≠ v0.ownBlock ∧ some k ≠ v1.ownBlock) v2 r ∧ IsS66 w0 W1 g s0 s1 s2 ∧ Below w0.heap.size w0 W1 ∧ KeepBut w W1 g none := by
  obtain ⟨A0, c0, hg, hI⟩ := h.I
  refine ⟨hw.R h.X.r0, hw.R h.X.r1, hw.R h.X.r2, ⟨A0, c0, hw.far (Ne.symm (neT hg h.z (by decide))) hg, hI⟩, hw.below h.B (Nat.le_trans h.L h.m), ⟨Nat.le_trans h.K.1 hw.sz, fun k hk hne hn => ?_⟩⟩
  have h1 := h.K.2 k hk hne hn
  cases ho : w.heap[k]? with
  | none => have h3 := Array.getElem?_eq_none_iff.1 ho; omega
  | some o => exact hw.far (Nat.ne_of_lt (Nat.lt_of_lt_of_le hk h.m)) (h1.trans ho)
end
theorem spec_l7Cost.tab14 : rtab .any (opsOf Try.f37 14) = (true, [([], []), ([0], [0]), ([], []), ([], []), ([3], [3]), ([1, 2, 0, 1, 2, 3, 4], [1, 2]), ([5, 4, 4, 0, 1, 2, 3, 4], [4, 5])]) := by kernel_rfl
theorem spec_l7Cost.tab15 : rtab .any (opsOf Try.f37 15) = (true, [([], []), ([0], [0]), ([], []), ([], []), ([3], [3]), ([1, 2, 0, 1, 2, 3, 4], [1, 2]), ([5, 4, 4, 0, 1, 2, 3, 4], [4, 5])]) := by kernel_rfl
theorem spec_l7Cost.tab20 : rtab .any (opsOf Try.f37 20) = (true, [([], []), ([0], [0]), ([], []), ([2], [2]), ([], []), ([3, 4], [3, 4]), ([], []), ([], []), ([6, 7], [6, 7]), ([1, 5, 0, 1, 2, 3, 4, 5, 6, 7, 8], [1, 5]), ([9, 8, 8, 0, 1, 2, 3, 4, 5, 6, 7, 8], [8, 9])]) := by kernel_rfl
theorem w14_ : waitsOk [([], []), ([0], [0]), ([], []), ([], []), ([3], [3]), ([1, 2, 0, 1, 2, 3, 4], [1, 2]), ([5, 4, 4, 0, 1, 2, 3, 4], [4, 5])] [0, 1, 0, 0, 8, 31, 63] = true := by kernel_rfl
theorem w20_ : waitsOk [([], []), ([0], [0]), ([], []), ([2], [2]), ([], []), ([3, 4], [3, 4]), ([], []), ([], []), ([6, 7], [6, 7]), ([1, 5, 0, 1, 2, 3, 4, 5, 6, 7, 8], [1, 5]), ([9, 8, 8, 0, 1, 2, 3, 4, 5, 6, 7, 8], [8, 9])] [0, 1, 0, 4, 0, 28, 0, 0, 192, 511, 1023] = true := by kernel_rfl
def spec_l7Cost.T9 : Bool × List (List Nat × List Nat) := (true, [([], []), ([0], [0]), ([], []), ([], []), ([3], [3]), ([], []), ([4, 5], [4, 5]), ([6], [6]), ([7], [7]), ([1, 2, 0, 1, 2, 3, 4, 5, 6, 7, 8], [1, 2]), ([9, 8, 0, 1, 2, 3, 4, 5, 6, 7, 8], [8, 9])])
def spec_l7Cost.B9 : List Nat := [0, 1, 0, 0, 8, 0, 56, 120, 248, 511, 1023]
theorem spec_l7Cost.tab9 : rtab .any (opsOf Try.f37 9) = spec_l7Cost.T9 := by kernel_rfl
theorem spec_l7Cost.bits9 : waitsOk spec_l7Cost.T9.2 spec_l7Cost.B9 = true := by kernel_rfl
set_option maxHeartbeats 8000000 in
set_option maxRecDepth 100000 in
theorem spec_l7Cost.calls (k : Nat) (g : Nat) (s0_0 : List Int) (s0_1 : Int) (s0_2 : Int) (r1 : List Int) (r2 : List Int) (r3 : List Int) (r4 : Int) (r5 : Int) (w0 w : World) (hI : IsS66 w0 w g s0_0 s0_1 s0_2) (hB : Below w0.heap.size w0 w) (h : spec_l7Cost.f k s0_0 s0_1 s0_2 = some (r1, r2, r3, r4, r5)) :
    Calls Try.prog 37 #[.pointer (some ⟨g, 0, none⟩)] w fun e w' => ∃ v0_ v1_ v2_ : Value, e = .returned (.agg #[v0_, v1_, v2_]) ∧ Kd.R (Kd.int .i64) 3 w' w.heap.size (fun k_ => some k_ ≠ (v1_ : Value).ownBlock ∧ some k_ ≠ (v2_ : Value).ownBlock) v0_ r1 ∧ Kd.R (Kd.int .i64) 3 w' w.heap.size (fun k_ => some k_ ≠ (v0_ : Value).ownBlock ∧ some k_ ≠ (v2_ : Value).ownBlock) v1_ r2 ∧ Kd.R (Kd.int .i64) 3 w' w.heap.size (fun k_ => some k_ ≠ (v0_ : Value).ownBlock ∧ some k_ ≠ (v1_ : Value).ownBlock) v2_ r3 ∧ IsS66 w0 w' g s0_0 r4 r5 ∧ Below w0.heap.size w0 w' ∧ KeepBut w w' g none := by
  have hu35 := Try.underlying35
  obtain ⟨⟨d, i, r⟩, A1, H⟩ := bindS h
  obtain ⟨⟨x, s1, s2⟩, A2, H⟩ := bindS H
  dsimp only at H
  replace A1 := Aside0.mk A1
  replace A2 := Aside0.mk A2
  have HI := Aside0.mk hI
  have HB := Aside0.mk hB
  have HH := Aside0.mk H
  clear h H hI hB
  go_enter Try.func37, Try.ntmps37
  go_upto_region 3 with (first
    | (go_at_call 55; (with_reducible refine (spec_UnitCost.calls k d i r _ A1.out).mono ?_); rintro _ w1 ⟨v0, v1, v2, rfl, q0, q1, q2, hb⟩; obtain ⟨B0, c0, rfl⟩ := Kd.R_slice q0; obtain ⟨B1, c1, rfl⟩ := Kd.R_slice q1; obtain ⟨B2, c2, rfl⟩ := Kd.R_slice q2; have hE := Aside0.mk hb; have Q0 := Aside0.mk q0; have Q1 := Aside0.mk q1; have Q2 := Aside0.mk q2; clear q0 q1 q2 hb)
    | (go_at_call 38; have ST := Aside0.mk (St.mk (v0 := .slice B0 d.length c0) (v1 := .slice B1 i.length c1) (v2 := .slice B2 r.length c2) (IsS66.below HI.out upE) (below_step HB.out upE) (KeepBut.of_below upE g none) ⟨blk_new w1 (.cells #[.slice B0 d.length c0, .slice B1 i.length c1, .slice B2 r.length c2] 35 (0, 0)), Kd.R_alloc (Kd.R_lower Q0.out (below_size upE)) _, Kd.R_alloc (Kd.R_lower Q1.out (below_size upE)) _, Kd.R_alloc (Kd.R_lower Q2.out (below_size upE)) _, below_size upE⟩ (blk_alloc (blk_below (blk_new w _) hE.out) _) (Nat.ne_of_gt (blk_lt (blk_below (blk_new w (.cells #[.slice none 0 0, .slice none 0 0, .slice none 0 0] 35 (0, 0))) hE.out))) (Nat.le_refl _) (below_size HB.out)); (with_reducible refine (spec_l1Below.calls g s0_0 s0_1 s0_2 4 x s1 s2 w0 _ ST.out.I ST.out.B A2.out).mono ?_); rintro _ w2 ⟨rfl, hI, hB, hk⟩; replace ST := Aside0.mk (ST.out.call hI hB hk); clear hI hB hk))
  by_cases c0 : x = 0
  · have H := HH.out
    rw [if_pos c0] at H
    have c0b : (x == 0) = true := beq_iff_eq.mpr c0
    clear HH c0
    obtain ⟨rfl, rfl, rfl, rfl, rfl⟩ : d = r1 ∧ i = r2 ∧ r = r3 ∧ s1 = r4 ∧ s2 = r5 := by simpa using H
    clear H
    go_wp2_with (first | ((with_reducible refine gate_dst (N := 12) rfl ?_); refine load3 rfl rfl rfl rfl ST.out.X.box ?_) | ((with_reducible refine gate_store (t := 35) (p := 2) rfl ?_); refine store3 rfl rfl rfl rfl rfl ST.out.z ?_; intro w5 hW; have W5 := Aside0.mk hW; clear hW))
    refine bodyPost_ret (results_cell_row rfl _ _ w.heap.size 35 _ (0, 0) _ rfl W5.out.blk Try.underlying35 rfl (by kernel_rfl)) rfl ?_
    exact ⟨_, _, _, rfl, ST.out.fin W5.out⟩
  have c0b : (x == 0) = false := beq_eq_false_iff_ne.mpr c0
  by_cases c1 : x = 1
  · have H := HH.out
    rw [if_neg c0, if_pos c1] at H
    have c1b : (x == 1) = true := beq_iff_eq.mpr c1
    have H' := Aside0.mk H
    clear HH c0 c1 H
    go_wp2
    go_loopg [4] k (fun kq v4 w' => ∃ (j s1 s2 : Int) (d i r : List Int) (v0 v1 v2 : Value), v4 = .int .i64 j ∧ Aside0 (spec_l7Cost.l0 kq j s0_0 s1 s2 d i r = some (r1, r2, r3, r4, r5)) ∧ Aside0 (kq ≤ k) ∧ Aside0 (St w0 w w' g w.heap.size w1.heap.size s0_0 s1 s2 v0 v1 v2 d i r))
    case atStart => exact ⟨0, s1, s2, d, i, r, _, _, _, rfl, H', ⟨Nat.le_refl _⟩, ST⟩
    case round =>
      clear H' ST Q0 Q1 Q2 hE A2 A1 c0b c1b
      obtain ⟨j, s1, s2, d, i, r, v0, v1, v2, rfl, HA, HK1, ST⟩ := hrel
      cases gk with
      | zero => exact absurd HA.out (by simp [spec_l7Cost.l0])
      | succ k1 =>
        have H := HA.out
        clear HA
        simp only [spec_l7Cost.l0] at H
        have e0 := ST.out.c0
        have e1 := ST.out.c1
        have e2 := ST.out.c2
        by_cases c2 : j < (r.length : Int)
        · rw [if_pos c2] at H
          by_cases c3 : 0 ≤ j
          · rw [if_pos c3] at H
            have H' := Aside0.mk H
            clear H
            obtain ⟨b, c, rfl, _⟩ := Kd.R_form ST.out.X.r2 (by omega)
            obtain ⟨hx, hf⟩ := Kd.R_celln 0 ST.out.X.r2 j c3 c2
            have c2b := decide_eq_true c2
            replace c2 := eq_true c2
            replace c3 := eq_true c3
            go_wp2
            refine start_ (n := 11) (S := fun w' => w'.cell? ⟨w1.heap.size, 2, none⟩ = some (.slice (some ⟨b, 0, none⟩) r.length c) ∧ w'.cell? ⟨b, j.toNat, none⟩ = some (.int .i64 (rd r j))) (ds := [10]) (bits 11 0) (by kernel_rfl) rfl rfl ⟨e2, hx⟩ (fun hHeld => ?_)
            refine with_tabW spec_l7Cost.tab9 spec_l7Cost.bits9 (fun HT_ HW_ => ?_)
            replace ST := Aside0.mk (ST.out.below (below_drew1 (Below.refl _ _)))
            generalize wr.drew = w2 at ST hHeld ⊢
            refine purA 0 22 (bits 11 1) HT_.out ?_
            refine purA 2 24 (bits 11 5) HT_.out ?_
            refine purA 3 25 (bits 11 13) HT_.out ?_
            refine purA 5 27 (bits 11 45) HT_.out ?_
            refine takA 1 23 (bits 11 47) HT_.out HW_.out hHeld ?_
            refine takA 4 26 (bits 11 63) HT_.out HW_.out hHeld ?_
            refine purA 6 28 (bits 11 127) HT_.out ?_
            refine takA 7 29 (bits 11 255) HT_.out HW_.out hHeld ?_
            refine purA 8 30 (bits 11 511) HT_.out ?_
            refine purA 9 31 (bits 11 1023) HT_.out ?_
            refine lastS 10 (w1 := w2.setCell ⟨b, j.toNat, none⟩ (.int .i64 (wrap64 (rd r j * 3)))) (bits 11 2047) HT_.out (by decide) rfl rfl (by rfl) (by obtain ⟨hx, hf⟩ := Kd.R_celln 0 ST.out.X.r2 j (of_eq_true c3) (of_eq_true c2); go_simp) ?_
            refine done_ (done_of HT_.out (by kernel_rfl)) ?_
            replace ST := Aside0.mk (ST.out.set2 j (wrap64 (rd r j * 3)))
            clear hHeld hx hf e0 e1 e2
            go_wp2
            go_roundg k1
            case measure => have := HK1.out; omega
            case rel => exact ⟨wrap64 (j + 1), s1, s2, d, i, _, v0, v1, _, rfl, H', ⟨by have := HK1.out; omega⟩, ST⟩
          · rw [if_neg c3] at H; cases H
        · rw [if_neg c2] at H
          have c2b := decide_eq_false c2
          clear c2
          obtain ⟨rfl, rfl, rfl, rfl, rfl⟩ : d = r1 ∧ i = r2 ∧ r = r3 ∧ s1 = r4 ∧ s2 = r5 := by simpa using H
          clear H
          obtain ⟨B0, c0, rfl⟩ := Kd.R_slice ST.out.X.r0
          obtain ⟨B1, c1, rfl⟩ := Kd.R_slice ST.out.X.r1
          obtain ⟨B2, c2, rfl⟩ := Kd.R_slice ST.out.X.r2
          go_wp2_with (first | ((with_reducible refine gate_dst (N := 32) rfl ?_); refine load3 rfl rfl rfl rfl ST.out.X.box ?_) | ((with_reducible refine gate_store (t := 35) (p := 2) rfl ?_); refine store3 rfl rfl rfl rfl rfl ST.out.z ?_; intro w5 hW; have W5 := Aside0.mk hW; clear hW))
          refine bodyPost_ret (results_cell_row rfl _ _ w.heap.size 35 _ (0, 0) _ rfl W5.out.blk Try.underlying35 rfl (by kernel_rfl)) rfl ?_
          exact ⟨_, _, _, rfl, ST.out.fin W5.out⟩
  · have H := HH.out
    rw [if_neg c0, if_neg c1] at H
    have c1b : (x == 1) = false := beq_eq_false_iff_ne.mpr c1
    have H' := Aside0.mk H
    clear HH c0 c1 H
    go_wp2
    go_loopg [5] k (fun kq v5 w' => ∃ (j s1 s2 : Int) (d i r : List Int) (v0 v1 v2 : Value), v5 = .int .i64 j ∧ Aside0 (spec_l7Cost.l1 kq j s0_0 s1 s2 d i r = some (r1, r2, r3, r4, r5)) ∧ Aside0 (kq ≤ k) ∧ Aside0 (St w0 w w' g w.heap.size w1.heap.size s0_0 s1 s2 v0 v1 v2 d i r))
    case atStart => exact ⟨0, s1, s2, d, i, r, _, _, _, rfl, H', ⟨Nat.le_refl _⟩, ST⟩
    case round =>
      clear H' ST Q0 Q1 Q2 hE A2 A1 c0b c1b
      obtain ⟨j, s1, s2, d, i, r, v0, v1, v2, rfl, HA, HK1, ST⟩ := hrel
      cases gk with
      | zero => exact absurd HA.out (by simp [spec_l7Cost.l1])
      | succ k1 =>
        have H := HA.out
        clear HA
        simp only [spec_l7Cost.l1] at H
        by_cases c2 : j < 6
        · rw [if_pos c2] at H
          have c2b := decide_eq_true c2
          clear c2
          obtain ⟨⟨x1, t1, t2⟩, A1, H⟩ := bindS H
          dsimp only at H
          by_cases c3 : 0 ≤ j
          case neg => rw [if_neg c3] at H; cases H
          rw [if_pos c3] at H
          by_cases c4 : j < (d.length : Int)
          case neg => rw [if_neg c4] at H; cases H
          rw [if_pos c4] at H
          obtain ⟨⟨x2, t3, t4⟩, A2, H⟩ := bindS H
          dsimp only at H
          by_cases c5 : j < (i.length : Int)
          case neg => rw [if_neg c5] at H; cases H
          rw [if_pos c5] at H
          replace A1 := Aside0.mk A1
          replace A2 := Aside0.mk A2
          have H' := Aside0.mk H
          clear H
          have c3' := eq_true c3
          have c4' := eq_true c4
          have c5' := eq_true c5
          obtain ⟨b, c, rfl, _⟩ := Kd.R_form ST.out.X.r0 (by omega)
          have e0 := ST.out.c0
          go_wp2
          refine start_ (n := 7) (S := fun w' => w'.cell? ⟨w1.heap.size, 0, none⟩ = some (.slice (some ⟨b, 0, none⟩) d.length c)) (ds := [6]) (bits 7 0) (by kernel_rfl) rfl rfl e0 (fun hHeld => ?_)
          refine with_tabW spec_l7Cost.tab14 w14_ (fun HT_ HW_ => ?_)
          replace ST := Aside0.mk (ST.out.below (below_drew1 (Below.refl _ _)))
          generalize World.drew _ = w2 at ST hHeld ⊢
          refine purA 0 37 (bits 7 1) HT_.out ?_
          refine purA 2 39 (bits 7 5) HT_.out ?_
          refine purA 3 40 (bits 7 13) HT_.out ?_
          refine takA 1 38 (bits 7 15) HT_.out HW_.out hHeld ?_
          refine oneKS 4 (some 41) (bits 7 31) HT_.out (by decide) (fun K hK => ?_)
          refine goes_ Try.func38 (by kernel_rfl) rfl #[.pointer (some ⟨g, 0, none⟩), .int .i64 7] (by rfl) rfl rfl (by simp only [List.map_toArray, List.map_cons, List.map_nil]; rfl) ?_
          (with_reducible refine (spec_l1Below.calls g s0_0 _ _ 7 _ _ _ w0 _ ST.out.I ST.out.B A1.out).mono ?_)
          rintro _ w3 ⟨rfl, hI, hB, hk⟩
          replace ST := Aside0.mk (ST.out.call hI hB hk)
          clear hI hB hk hHeld e0
          refine ⟨_, rfl, hK _ _ ST.out.c0 (fun hHeld => normA ?_)⟩
          clear hK
          refine purA 5 42 (bits 7 63) HT_.out ?_
          obtain ⟨hx, hf⟩ := Kd.R_celln 0 ST.out.X.r0 j c3 c4
          refine lastS 6 (w1 := w3.setCell ⟨b, j.toNat, none⟩ (.int .i64 x1)) (bits 7 127) HT_.out (by decide) rfl rfl (by rfl) (by go_simp) ?_
          refine done_ (done_of HT_.out (by kernel_rfl)) ?_
          replace ST := Aside0.mk (ST.out.set0 j x1)
          clear hHeld hx hf HT_ HW_
          obtain ⟨b, c, rfl, _⟩ := Kd.R_form ST.out.X.r1 (by omega)
          have e0 := ST.out.c1
          go_wp2
          refine start_ (n := 7) (S := fun w' => w'.cell? ⟨w1.heap.size, 1, none⟩ = some (.slice (some ⟨b, 0, none⟩) i.length c)) (ds := [6]) (bits 7 0) (by kernel_rfl) rfl rfl e0 (fun hHeld => ?_)
          refine with_tabW spec_l7Cost.tab15 w14_ (fun HT_ HW_ => ?_)
          replace ST := Aside0.mk (ST.out.below (below_drew1 (Below.refl _ _)))
          generalize World.drew _ = w2 at ST hHeld ⊢
          refine purA 0 43 (bits 7 1) HT_.out ?_
          refine purA 2 45 (bits 7 5) HT_.out ?_
          refine purA 3 46 (bits 7 13) HT_.out ?_
          refine takA 1 44 (bits 7 15) HT_.out HW_.out hHeld ?_
          refine oneKS 4 (some 47) (bits 7 31) HT_.out (by decide) (fun K hK => ?_)
          refine goes_ Try.func38 (by kernel_rfl) rfl #[.pointer (some ⟨g, 0, none⟩), .int .i64 7] (by rfl) rfl rfl (by simp only [List.map_toArray, List.map_cons, List.map_nil]; rfl) ?_
          (with_reducible refine (spec_l1Below.calls g s0_0 _ _ 7 _ _ _ w0 _ ST.out.I ST.out.B A2.out).mono ?_)
          rintro _ w3 ⟨rfl, hI, hB, hk⟩
          replace ST := Aside0.mk (ST.out.call hI hB hk)
          clear hI hB hk hHeld e0
          refine ⟨_, rfl, hK _ _ ST.out.c1 (fun hHeld => normA ?_)⟩
          clear hK
          refine purA 5 48 (bits 7 63) HT_.out ?_
          obtain ⟨hx, hf⟩ := Kd.R_celln 0 ST.out.X.r1 j c3 c5
          refine lastS 6 (w1 := w3.setCell ⟨b, j.toNat, none⟩ (.int .i64 x2)) (bits 7 127) HT_.out (by decide) rfl rfl (by rfl) (by go_simp) ?_
          refine done_ (done_of HT_.out (by kernel_rfl)) ?_
          replace ST := Aside0.mk (ST.out.set1 j x2)
          clear hHeld hx hf HT_ HW_
          clear A1 A2 c2b c3 c4 c5 c3' c4' c5'
          go_wp2
          go_loopg [6] k1 (fun kq v6 w' => ∃ (m s1 s2 : Int) (d i r : List Int) (v0 v1 v2 : Value), v6 = .int .i64 m ∧ Aside0 (spec_l7Cost.l2 kq j m s0_0 s1 s2 d i r = some (r1, r2, r3, r4, r5)) ∧ Aside0 (kq ≤ k1) ∧ Aside0 (St w0 w w' g w.heap.size w1.heap.size s0_0 s1 s2 v0 v1 v2 d i r))
          case atStart => exact ⟨0, _, _, _, _, r, _, _, v2, rfl, H', ⟨Nat.le_refl _⟩, ST⟩
          case round =>
            clear H' ST
            obtain ⟨m, s1, s2, d, i, r, v0, v1, v2, rfl, HA, HK2, ST⟩ := hrel
            cases gk with
            | zero => exact absurd HA.out (by simp [spec_l7Cost.l2])
            | succ k2 =>
              have H := HA.out
              clear HA
              simp only [spec_l7Cost.l2] at H
              by_cases c6 : m < 6
              · rw [if_pos c6] at H
                have c6b := decide_eq_true c6
                clear c6
                by_cases c7 : j = m
                · rw [if_pos c7] at H
                  have c7b : (j != m) = false := bne_eq_false_iff_eq.mpr c7
                  have H' := Aside0.mk H
                  clear H c7
                  go_wp2
                  go_roundg k2
                  case measure => have := HK2.out; omega
                  case rel => exact ⟨wrap64 (m + 1), s1, s2, d, i, r, v0, v1, v2, rfl, H', ⟨by have := HK2.out; omega⟩, ST⟩
                · rw [if_neg c7] at H
                  have c7b : (j != m) = true := bne_iff_ne.mpr c7
                  clear c7
                  obtain ⟨⟨y, t1, t2⟩, A3, H⟩ := bindS H
                  dsimp only at H
                  by_cases c8 : 0 ≤ wrap64 (wrap64 (j * 6) + m)
                  case neg => rw [if_neg c8] at H; cases H
                  rw [if_pos c8] at H
                  by_cases c9 : wrap64 (wrap64 (j * 6) + m) < (r.length : Int)
                  case neg => rw [if_neg c9] at H; cases H
                  rw [if_pos c9] at H
                  replace A3 := Aside0.mk A3
                  have H' := Aside0.mk H
                  clear H
                  have c8' := eq_true c8
                  have c9' := eq_true c9
                  obtain ⟨b, c, rfl, _⟩ := Kd.R_form ST.out.X.r2 (by omega)
                  have e0 := ST.out.c2
                  go_wp2
                  refine start_ (n := 11) (S := fun w' => w'.cell? ⟨w1.heap.size, 2, none⟩ = some (.slice (some ⟨b, 0, none⟩) r.length c)) (ds := [10]) (bits 11 0) (by kernel_rfl) rfl rfl e0 (fun hHeld => ?_)
                  refine with_tabW spec_l7Cost.tab20 w20_ (fun HT_ HW_ => ?_)
                  replace ST := Aside0.mk (ST.out.below (below_drew1 (Below.refl _ _)))
                  generalize World.drew _ = w2 at ST hHeld ⊢
                  refine purA 0 56 (bits 11 1) HT_.out ?_
                  refine purA 2 58 (bits 11 5) HT_.out ?_
                  refine purA 4 60 (bits 11 21) HT_.out ?_
                  refine purA 6 62 (bits 11 85) HT_.out ?_
                  refine takA 1 57 (bits 11 87) HT_.out HW_.out hHeld ?_
                  refine purA 3 59 (bits 11 95) HT_.out ?_
                  refine purA 5 61 (bits 11 127) HT_.out ?_
                  have HG := Aside0.mk ST.out.I.lt
                  replace ST := Aside0.mk (ST.out.below (below_alloc (Below.refl _ _) (.cells (([0, 1, 4, 9, 1000] : List Int).map (Value.int .i64)).toArray 3 (0, 0))))
                  refine oneVS 7 63 (w1 := w2.alloc (.cells (([0, 1, 4, 9, 1000] : List Int).map (Value.int .i64)).toArray 3 (0, 0))) (bits 11 255) HT_.out (by decide) ST.out.c2 (fun hHeld => ?_)
                  refine oneKS 8 (some 64) (bits 11 511) HT_.out (by decide) (fun K hK => ?_)
                  refine goes_ Try.func45 (by kernel_rfl) rfl #[.pointer (some ⟨g, 0, none⟩), .slice (some ⟨w2.heap.size, 0, none⟩) ([0, 1, 4, 9, 1000] : List Int).length 5] (by rfl) rfl rfl (by simp only [List.map_toArray, List.map_cons, List.map_nil]; rfl) ?_
                  (with_reducible refine (spec_l1PickInt.calls g s0_0 _ _ _ _ ([0, 1, 4, 9, 1000] : List Int) y t1 t2 w0 _ ST.out.I ST.out.B (litC w2 ([0, 1, 4, 9, 1000] : List Int) (by decide)) (by decide) ?hf A3.out).mono ?_)
                  case hf => (rintro ad e _; cases e; exact Nat.ne_of_gt HG.out)
                  rintro _ w3 ⟨rfl, hI, hB, hk⟩
                  replace ST := Aside0.mk (ST.out.call hI hB hk)
                  clear hI hB hk hHeld e0
                  refine ⟨_, rfl, hK _ _ ST.out.c2 (fun hHeld => normA ?_)⟩
                  clear hK
                  refine purA 9 65 (bits 11 1023) HT_.out ?_
                  obtain ⟨hx, hf⟩ := Kd.R_celln 0 ST.out.X.r2 (wrap64 (wrap64 (j * 6) + m)) c8 c9
                  refine lastS 10 (w1 := w3.setCell ⟨b, (wrap64 (wrap64 (j * 6) + m)).toNat, none⟩ (.int .i64 y)) (bits 11 2047) HT_.out (by decide) rfl rfl (by rfl) (by go_simp) ?_
                  refine done_ (done_of HT_.out (by kernel_rfl)) ?_
                  replace ST := Aside0.mk (ST.out.set2 (wrap64 (wrap64 (j * 6) + m)) y)
                  clear hHeld hx hf HT_ HW_ c8 c9 c8' c9'
                  go_wp2
                  go_roundg k2
                  case measure => have := HK2.out; omega
                  case rel => exact ⟨wrap64 (m + 1), _, _, d, i, _, v0, v1, _, rfl, H', ⟨by have := HK2.out; omega⟩, ST⟩
              · rw [if_neg c6] at H
                have c6b := decide_eq_false c6
                have H' := Aside0.mk H
                clear H c6
                go_wp2
                go_roundg k2
                case measure => have := HK1.out; have := HK2.out; omega
                case rel => exact ⟨wrap64 (j + 1), s1, s2, d, i, r, v0, v1, v2, rfl, H', ⟨by have := HK1.out; have := HK2.out; omega⟩, ST⟩
        · rw [if_neg c2] at H
          have c2b := decide_eq_false c2
          clear c2
          obtain ⟨rfl, rfl, rfl, rfl, rfl⟩ : d = r1 ∧ i = r2 ∧ r = r3 ∧ s1 = r4 ∧ s2 = r5 := by simpa using H
          clear H
          obtain ⟨B0, c0, rfl⟩ := Kd.R_slice ST.out.X.r0
          obtain ⟨B1, c1, rfl⟩ := Kd.R_slice ST.out.X.r1
          obtain ⟨B2, c2, rfl⟩ := Kd.R_slice ST.out.X.r2
          go_wp2_with (first | ((with_reducible refine gate_dst (N := 66) rfl ?_); refine load3 rfl rfl rfl rfl ST.out.X.box ?_) | ((with_reducible refine gate_store (t := 35) (p := 2) rfl ?_); refine store3 rfl rfl rfl rfl rfl ST.out.z ?_; intro w5 hW; have W5 := Aside0.mk hW; clear hW))
          refine bodyPost_ret (results_cell_row rfl _ _ w.heap.size 35 _ (0, 0) _ rfl W5.out.blk Try.underlying35 rfl (by kernel_rfl)) rfl ?_
          exact ⟨_, _, _, rfl, ST.out.fin W5.out⟩


end Go.Proofs.Ytpkokfffjgdjoaa.HFnBytes
