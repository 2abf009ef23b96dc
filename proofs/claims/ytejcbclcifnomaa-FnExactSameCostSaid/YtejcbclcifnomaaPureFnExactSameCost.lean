/- For every two costs, the program's SameCost and the reference's SameCost answer the same. Condition: none but the model's own bounds. -/
import Derived.Test.YtejcbclcifnomaaHFnExactSameCostx3
import Derived.Test.YtejcbclcifnomaaM
namespace Go.Proofs.Ytejcbclcifnomaa.PureFnExactSameCost
open Go.RowKit Go.Proofs.Ytejcbclcifnomaa.HFnExactSameCost Go.Proofs.YtejcbclcifnomaaW.PrintWords Go.Proofs.YtejcbclcifnomaaW.PrintLast Go.Proofs.YtejcbclcifnomaaW.PrintMore Go.Proofs.Ytejcbclcifnomaa.M
set_option linter.unusedVariables false
set_option linter.unusedSimpArgs false

/-! laws_szIntS -/
theorem szI_eq (l : List Int) (hl : l.length ≤ maxLen) (a : Int) (h0 : 0 ≤ a) (h1 : a ≤ 1048576) : laws_szIntS.f l a = some (if a < l.length then -1 else a - l.length) := by
  have hm : maxLen = 9223372036854775807 := rfl
  unfold laws_szIntS.f
  rw [w64 (by omega) (by omega)]
  by_cases h : a < l.length
  · rw [if_pos h, if_pos (by omega)]
  · rw [if_neg h, if_neg (by omega)]

/-! laws_szCost -/
theorem szC_eq (a b c : List Int) (ha : a.length ≤ maxLen) (hb : b.length ≤ maxLen) (hc : c.length ≤ maxLen) (x : Int) (h0 : 0 ≤ x) (h1 : x ≤ 1048576) :
    laws_szCost.f a b c x = some (if x < a.length + b.length + c.length then -1 else x - a.length - b.length - c.length) := by
  unfold laws_szCost.f
  rw [szI_eq a ha x h0 h1]
  simp only [Option.bind_some]
  by_cases g1 : x < a.length
  · rw [if_pos g1, if_pos (by omega), if_pos (by omega)]
  · rw [if_neg g1, if_neg (by omega), szI_eq b hb _ (by omega) (by omega)]
    simp only [Option.bind_some]
    by_cases g2 : x - a.length < b.length
    · rw [if_pos g2, if_pos (by omega), if_pos (by omega)]
    · rw [if_neg g2, if_neg (by omega), szI_eq c hc _ (by omega) (by omega)]
      simp only [Option.bind_some]
      by_cases g3 : x - a.length - b.length < c.length
      · rw [if_pos g3, if_pos (by omega), if_pos (by omega)]
      · rw [if_neg g3, if_neg (by omega), if_neg (by omega)]

/-! spec_l7Same -/
theorem spec_l7Same_l0 (a b : List Int) (ha : a.length ≤ 1048576) (hb : b.length = a.length) (d : Nat) : ∀ j : Nat, j + d = a.length → Ev (fun k => spec_l7Same.l0 k a b j) (eqGo a b d j) := by
  induction d with
  | zero =>
    intro j hj
    exact Ev.step (f := fun _ => some true) (fun k => by simp only [spec_l7Same.l0]; rw [if_neg (by omega)]) (Ev.now _)
  | succ d ih =>
    intro j hj
    have c1 : (j : Int) < (a.length : Int) := by omega
    have c2 : (0 : Int) ≤ (j : Int) := by omega
    have c3 : (j : Int) < (b.length : Int) := by omega
    have e4 : wrap64 ((j : Int) + 1) = ((j + 1 : Nat) : Int) := by rw [w64 (by omega) (by omega)]; rfl
    refine Ev.step (fun k => by simp only [spec_l7Same.l0]; rw [if_pos c1, if_pos c2, if_pos c3, e4]) ?_
    simp only [eqGo]
    by_cases h : rd a (j : Int) = rd b (j : Int)
    · simp only [if_pos h]; exact ih (j + 1) (by omega)
    · simp only [if_neg h]; exact Ev.now _
theorem spec_l7Same_ev (a b : List Int) (ha : a.length ≤ 1048576) : Ev (fun k => spec_l7Same.f k a b) (eqT a b) := by
  unfold spec_l7Same.f eqT
  by_cases h : a.length = b.length
  · rw [if_pos h]
    simp only [if_pos (show (a.length : Int) = (b.length : Int) by omega)]
    exact spec_l7Same_l0 a b ha h.symm a.length 0 (by omega)
  · rw [if_neg h]
    simp only [if_neg (show ¬ (a.length : Int) = (b.length : Int) by omega)]; exact Ev.now _

/-! spec_SameCost -/
theorem spec_SameCost_ev (a b c x y z : List Int) (ha : a.length ≤ 1048576) (hb : b.length ≤ 1048576) (hc : c.length ≤ 1048576) : Ev (fun k => spec_SameCost.f k a b c x y z) (eqC a b c x y z) := by
  unfold spec_SameCost.f eqC
  refine Ev.bind (spec_l7Same_ev a x ha) ?_
  by_cases h1 : eqT a x = true
  · rw [h1]
    simp only [if_true]
    refine Ev.bind (spec_l7Same_ev b y hb) ?_
    by_cases h2 : eqT b y = true
    · rw [h2]
      simp only [if_true]
      exact Ev.bind (spec_l7Same_ev c z hc) (Ev.now _)
    · rw [Bool.eq_false_iff.mpr h2]
      simp only [Bool.false_eq_true, if_false]; exact Ev.now _
  · rw [Bool.eq_false_iff.mpr h1]
    simp only [Bool.false_eq_true, if_false]; exact Ev.now _

/-! laws_toIntS -/
theorem setI_grow (xs : List Int) (i : Nat) (x : Int) (m : Nat) (h : xs.length = i) : (xs ++ List.replicate (m + 1) (0 : Int)).set i x = (xs ++ [x]) ++ List.replicate m 0 := by
  rw [List.set_append_right _ _ (by omega), List.replicate_succ]
  simp [h]
theorem toIntS_l0 (l : List Int) (hl : l.length ≤ 1048576) (d : Nat) : ∀ i : Nat, i + d = l.length → Ev (fun k => laws_toIntS.l0 k l (l.take i ++ List.replicate d 0) i) l := by
  induction d with
  | zero =>
    intro i hi
    refine Ev.step (fun k => by simp only [laws_toIntS.l0]; rw [if_neg (by omega)]) ?_
    have e : i = l.length := by omega
    subst e
    exact evSome (by simp)
  | succ d ih =>
    intro i hi
    have c3 : (i : Int) < (((l.take i ++ List.replicate (d + 1) (0 : Int)).length : Nat) : Int) := by simp; omega
    have e4 : wrap64 ((i : Int) + 1) = ((i + 1 : Nat) : Int) := by rw [w64 (by omega) (by omega)]; rfl
    have hil : i < l.length := by omega
    have er : rd l (i : Int) = l[i] := by unfold rd; simp [List.getD_eq_getElem?_getD, List.getElem?_eq_getElem hil]
    refine Ev.step (fun k => by simp only [laws_toIntS.l0]; rw [if_pos (by omega), if_pos (by omega), if_pos c3, e4, er, Int.toNat_natCast, setI_grow _ _ _ _ (by simp; omega)]) ?_
    have := ih (i + 1) (by omega)
    rw [List.take_succ_eq_append_getElem hil] at this
    exact this
theorem toIntS_ev (l : List Int) (hl : l.length ≤ 1048576) : Ev (fun k => laws_toIntS.f k l) l := by
  unfold laws_toIntS.f
  have := toIntS_l0 l hl l.length 0 (by omega)
  simp only [Int.toNat_natCast, if_pos (show (0 : Int) ≤ (l.length : Int) by omega), if_pos (show l.length ≤ 35184372088832 by omega)]
  simpa using this

/-! laws_toCost -/
theorem toCost_ev (a b c : List Int) (ha : a.length ≤ 1048576) (hb : b.length ≤ 1048576) (hc : c.length ≤ 1048576) : Ev (fun k => laws_toCost.f k a b c) (a, b, c) := by
  unfold laws_toCost.f
  exact Ev.bind (toIntS_ev a ha) (Ev.bind (toIntS_ev b hb) (Ev.bind (toIntS_ev c hc) (Ev.now _)))

/-! slices_Equal_int_int -/
theorem slices_Equal_int_int_l0 (a b : List Int) (ha : a.length ≤ 1048576) (hb : b.length = a.length) (d : Nat) : ∀ j : Nat, j + d = a.length → Ev (fun k => slices_Equal_int_int.l0 k a b a.length j) (eqGo a b d j) := by
  induction d with
  | zero =>
    intro j hj
    exact Ev.step (f := fun _ => some true) (fun k => by simp only [slices_Equal_int_int.l0]; rw [if_neg (by omega)]) (Ev.now _)
  | succ d ih =>
    intro j hj
    have c1 : (j : Int) < (a.length : Int) := by omega
    have c2 : (0 : Int) ≤ (j : Int) := by omega
    have c3 : (j : Int) < (b.length : Int) := by omega
    have e4 : wrap64 ((j : Int) + 1) = ((j + 1 : Nat) : Int) := by rw [w64 (by omega) (by omega)]; rfl
    refine Ev.step (fun k => by simp only [slices_Equal_int_int.l0]; rw [if_pos c1, if_pos c2, if_pos c1, if_pos c3, e4]) ?_
    simp only [eqGo]
    by_cases h : rd a (j : Int) = rd b (j : Int)
    · simp only [if_pos h]; exact ih (j + 1) (by omega)
    · simp only [if_neg h]; exact Ev.now _
theorem slices_Equal_int_int_ev (a b : List Int) (ha : a.length ≤ 1048576) : Ev (fun k => slices_Equal_int_int.f k a b) (eqT a b) := by
  unfold slices_Equal_int_int.f eqT
  by_cases h : a.length = b.length
  · rw [if_pos h]
    simp only [if_pos (show (a.length : Int) = (b.length : Int) by omega)]
    exact slices_Equal_int_int_l0 a b ha h.symm a.length 0 (by omega)
  · rw [if_neg h]
    simp only [if_neg (show ¬ (a.length : Int) = (b.length : Int) by omega)]; exact Ev.now _

/-! impl_SameCost -/
theorem impl_SameCost_ev (a b c x y z : List Int) (ha : a.length ≤ 1048576) (hb : b.length ≤ 1048576) (hc : c.length ≤ 1048576) : Ev (fun k => impl_SameCost.f k a b c x y z) (eqC a b c x y z) := by
  unfold impl_SameCost.f eqC
  refine Ev.bind (slices_Equal_int_int_ev a x ha) ?_
  by_cases h1 : eqT a x = true
  · rw [h1]
    simp only [if_true]
    refine Ev.bind (slices_Equal_int_int_ev b y hb) ?_
    by_cases h2 : eqT b y = true
    · rw [h2]
      simp only [if_true]
      exact Ev.bind (slices_Equal_int_int_ev c z hc) (Ev.now _)
    · rw [Bool.eq_false_iff.mpr h2]
      simp only [Bool.false_eq_true, if_false]; exact Ev.now _
  · rw [Bool.eq_false_iff.mpr h1]
    simp only [Bool.false_eq_true, if_false]; exact Ev.now _

/-! laws_eqIntS -/
theorem eqIntS_l0 (l : List Int) (hl : l.length ≤ 1048576) (d : Nat) : ∀ i : Nat, i + d = l.length → Ev (fun k => laws_eqIntS.l0 k l l i) true := by
  induction d with
  | zero => intro i hi; exact Ev.step (fun k => by simp only [laws_eqIntS.l0]; rw [if_neg (by omega)]) (Ev.now _)
  | succ d ih =>
    intro i hi
    have e4 : wrap64 ((i : Int) + 1) = ((i + 1 : Nat) : Int) := by rw [w64 (by omega) (by omega)]; rfl
    refine Ev.step (fun k => by simp only [laws_eqIntS.l0]; rw [if_pos (by omega), if_pos (by omega), if_pos (by omega)]) ?_
    simp only [if_true, e4]
    exact ih (i + 1) (by omega)
theorem eqIntS_ev (l : List Int) (hl : l.length ≤ 1048576) : Ev (fun k => laws_eqIntS.f k l l) true := by
  unfold laws_eqIntS.f
  simp only [if_true]
  exact eqIntS_l0 l hl l.length 0 (by omega)

/-! laws_eqCost -/
theorem eqCost_ev (a b c : List Int) (ha : a.length ≤ 1048576) (hb : b.length ≤ 1048576) (hc : c.length ≤ 1048576) : Ev (fun k => laws_eqCost.f k a b c a b c) true := by
  unfold laws_eqCost.f
  refine Ev.bind (eqIntS_ev a ha) ?_
  simp only [if_true]
  refine Ev.bind (eqIntS_ev b hb) ?_
  simp only [if_true]
  refine Ev.bind (eqIntS_ev c hc) ?_
  simp only [if_true]
  exact Ev.now _

theorem law : ∀ (l0_0 : List Int) (l0_1 : List Int) (l0_2 : List Int) (l1_0 : List Int) (l1_1 : List Int) (l1_2 : List Int), l0_0.length ≤ maxLen → (∀ x ∈ l0_0, (Lit.int .i64 x).wf = true) → l0_1.length ≤ maxLen → (∀ x ∈ l0_1, (Lit.int .i64 x).wf = true) → l0_2.length ≤ maxLen → (∀ x ∈ l0_2, (Lit.int .i64 x).wf = true) → l1_0.length ≤ maxLen → (∀ x ∈ l1_0, (Lit.int .i64 x).wf = true) → l1_1.length ≤ maxLen → (∀ x ∈ l1_1, (Lit.int .i64 x).wf = true) → l1_2.length ≤ maxLen → (∀ x ∈ l1_2, (Lit.int .i64 x).wf = true) → ∃ k, laws_FnExactSameCost.f k l0_0 l0_1 l0_2 l1_0 l1_1 l1_2 = some true := by
  intro x y z p q r hx _ hy _ hz _ hp _ hq _ hr _
  refine Ev.rounds ?_
  unfold laws_FnExactSameCost.f
  simp only [szC_eq x y z hx hy hz 1048576 (by omega) (by omega), Option.bind_some]
  by_cases h : (1048576 : Int) < x.length + y.length + z.length
  · simp only [if_pos h]; exact Ev.now _
  · have lx : x.length ≤ 1048576 := by omega
    have ly : y.length ≤ 1048576 := by omega
    have lz : z.length ≤ 1048576 := by omega
    simp only [if_neg h, if_neg (show ¬ (1048576 - (x.length : Int) - y.length - z.length < 0) by omega)]
    simp only [szC_eq p q r hp hq hr (1048576 - (x.length : Int) - y.length - z.length) (by omega) (by omega), Option.bind_some]
    by_cases h2 : (1048576 : Int) - x.length - y.length - z.length < p.length + q.length + r.length
    · simp only [if_pos h2]; exact Ev.now _
    · have lp : p.length ≤ 1048576 := by omega
      have lq : q.length ≤ 1048576 := by omega
      have lr : r.length ≤ 1048576 := by omega
      simp only [if_neg h2, if_neg (show ¬ (1048576 - (x.length : Int) - y.length - z.length - p.length - q.length - r.length < 0) by omega)]
      refine Ev.bind (toCost_ev x y z lx ly lz) (Ev.bind (toCost_ev p q r lp lq lr) (Ev.bind (spec_SameCost_ev x y z p q r lx ly lz) (Ev.bind (toCost_ev x y z lx ly lz) (Ev.bind (toCost_ev p q r lp lq lr) (Ev.bind (impl_SameCost_ev x y z p q r lx ly lz) ?_)))))
      simp only [bne_self_eq_false, Bool.false_eq_true, if_false]
      refine Ev.bind (toCost_ev x y z lx ly lz) (Ev.bind (eqCost_ev x y z lx ly lz) ?_)
      simp only [if_true]
      refine Ev.bind (toCost_ev p q r lp lq lr) (Ev.bind (eqCost_ev p q r lp lq lr) ?_)
      simp only [if_true]
      exact Ev.now _

end Go.Proofs.Ytejcbclcifnomaa.PureFnExactSameCost
namespace Go.Proofs.Ytejcbclcifnomaa.Pure
open Go.RowKit Go.Proofs.Ytejcbclcifnomaa.HFnExactSameCost
theorem FnExactSameCost : ∀ (l0_0 : List Int) (l0_1 : List Int) (l0_2 : List Int) (l1_0 : List Int) (l1_1 : List Int) (l1_2 : List Int), l0_0.length ≤ maxLen → (∀ x ∈ l0_0, (Lit.int .i64 x).wf = true) → l0_1.length ≤ maxLen → (∀ x ∈ l0_1, (Lit.int .i64 x).wf = true) → l0_2.length ≤ maxLen → (∀ x ∈ l0_2, (Lit.int .i64 x).wf = true) → l1_0.length ≤ maxLen → (∀ x ∈ l1_0, (Lit.int .i64 x).wf = true) → l1_1.length ≤ maxLen → (∀ x ∈ l1_1, (Lit.int .i64 x).wf = true) → l1_2.length ≤ maxLen → (∀ x ∈ l1_2, (Lit.int .i64 x).wf = true) → ∃ k, laws_FnExactSameCost.f k l0_0 l0_1 l0_2 l1_0 l1_1 l1_2 = some true := Go.Proofs.Ytejcbclcifnomaa.PureFnExactSameCost.law
end Go.Proofs.Ytejcbclcifnomaa.Pure
