/- For every cost and every two labels, the program's RelCost and the reference's RelCost answer the same. Condition: none but the model's own bounds. -/
import Derived.Test.YteflhablmeelbaaHFnExactRelCostx3
import Derived.Test.YteflhablmeelbaaM
namespace Go.Proofs.Yteflhablmeelbaa.PureFnExactRelCost
open Go.RowKit Go.Proofs.Yteflhablmeelbaa.HFnExactRelCost Go.Proofs.YteflhablmeelbaaW.PrintWords Go.Proofs.YteflhablmeelbaaW.PrintLast Go.Proofs.YteflhablmeelbaaW.PrintMore Go.Proofs.Yteflhablmeelbaa.M
set_option linter.unusedVariables false
set_option linter.unusedSimpArgs false

/-! laws_szIntS -/
theorem szI_eq (l : List Int) (hl : l.length ≤ maxLen) (a : Int) (h0 : 0 ≤ a) (h1 : a ≤ 1048576) : laws_szIntS.f l a = some (if a < l.length then -1 else a - l.length) := by
  have hm : maxLen = 9223372036854775807 := rfl
  unfold laws_szIntS.f
  rw [w64 (by omega) (by omega)]
  by_cases h : a < l.length
  · rw [if_pos h, if_pos (by omega)]
  · rw [if_neg h, if_neg (by omega)]

/-! laws_szCost -/
theorem szC_eq (a b c : List Int) (ha : a.length ≤ maxLen) (hb : b.length ≤ maxLen) (hc : c.length ≤ maxLen) (x : Int) (h0 : 0 ≤ x) (h1 : x ≤ 1048576) :
    laws_szCost.f a b c x = some (if x < a.length + b.length + c.length then -1 else x - a.length - b.length - c.length) := by
  unfold laws_szCost.f
  rw [szI_eq a ha x h0 h1]
  simp only [Option.bind_some]
  by_cases g1 : x < a.length
  · rw [if_pos g1, if_pos (by omega), if_pos (by omega)]
  · rw [if_neg g1, if_neg (by omega), szI_eq b hb _ (by omega) (by omega)]
    simp only [Option.bind_some]
    by_cases g2 : x - a.length < b.length
    · rw [if_pos g2, if_pos (by omega), if_pos (by omega)]
    · rw [if_neg g2, if_neg (by omega), szI_eq c hc _ (by omega) (by omega)]
      simp only [Option.bind_some]
      by_cases g3 : x - a.length - b.length < c.length
      · rw [if_pos g3, if_pos (by omega), if_pos (by omega)]
      · rw [if_neg g3, if_neg (by omega), if_neg (by omega)]

/-! laws_toIntS -/
theorem setI_grow (xs : List Int) (i : Nat) (x : Int) (m : Nat) (h : xs.length = i) : (xs ++ List.replicate (m + 1) (0 : Int)).set i x = (xs ++ [x]) ++ List.replicate m 0 := by
  rw [List.set_append_right _ _ (by omega), List.replicate_succ]
  simp [h]
theorem toIntS_l0 (l : List Int) (hl : l.length ≤ 1048576) (d : Nat) : ∀ i : Nat, i + d = l.length → Ev (fun k => laws_toIntS.l0 k l (l.take i ++ List.replicate d 0) i) l := by
  induction d with
  | zero =>
    intro i hi
    refine Ev.step (fun k => by simp only [laws_toIntS.l0]; rw [if_neg (by omega)]) ?_
    have e : i = l.length := by omega
    subst e
    exact evSome (by simp)
  | succ d ih =>
    intro i hi
    have c3 : (i : Int) < (((l.take i ++ List.replicate (d + 1) (0 : Int)).length : Nat) : Int) := by simp; omega
    have e4 : wrap64 ((i : Int) + 1) = ((i + 1 : Nat) : Int) := by rw [w64 (by omega) (by omega)]; rfl
    have hil : i < l.length := by omega
    have er : rd l (i : Int) = l[i] := by unfold rd; simp [List.getD_eq_getElem?_getD, List.getElem?_eq_getElem hil]
    refine Ev.step (fun k => by simp only [laws_toIntS.l0]; rw [if_pos (by omega), if_pos (by omega), if_pos c3, e4, er, Int.toNat_natCast, setI_grow _ _ _ _ (by simp; omega)]) ?_
    have := ih (i + 1) (by omega)
    rw [List.take_succ_eq_append_getElem hil] at this
    exact this
theorem toIntS_ev (l : List Int) (hl : l.length ≤ 1048576) : Ev (fun k => laws_toIntS.f k l) l := by
  unfold laws_toIntS.f
  have := toIntS_l0 l hl l.length 0 (by omega)
  simp only [Int.toNat_natCast, if_pos (show (0 : Int) ≤ (l.length : Int) by omega), if_pos (show l.length ≤ 35184372088832 by omega)]
  simpa using this

/-! laws_toCost -/
theorem toCost_ev (a b c : List Int) (ha : a.length ≤ 1048576) (hb : b.length ≤ 1048576) (hc : c.length ≤ 1048576) : Ev (fun k => laws_toCost.f k a b c) (a, b, c) := by
  unfold laws_toCost.f
  exact Ev.bind (toIntS_ev a ha) (Ev.bind (toIntS_ev b hb) (Ev.bind (toIntS_ev c hc) (Ev.now _)))

/-! laws_eqIntS -/
theorem eqIntS_l0 (l : List Int) (hl : l.length ≤ 1048576) (d : Nat) : ∀ i : Nat, i + d = l.length → Ev (fun k => laws_eqIntS.l0 k l l i) true := by
  induction d with
  | zero => intro i hi; exact Ev.step (fun k => by simp only [laws_eqIntS.l0]; rw [if_neg (by omega)]) (Ev.now _)
  | succ d ih =>
    intro i hi
    have e4 : wrap64 ((i : Int) + 1) = ((i + 1 : Nat) : Int) := by rw [w64 (by omega) (by omega)]; rfl
    refine Ev.step (fun k => by simp only [laws_eqIntS.l0]; rw [if_pos (by omega), if_pos (by omega), if_pos (by omega)]) ?_
    simp only [if_true, e4]
    exact ih (i + 1) (by omega)
theorem eqIntS_ev (l : List Int) (hl : l.length ≤ 1048576) : Ev (fun k => laws_eqIntS.f k l l) true := by
  unfold laws_eqIntS.f
  simp only [if_true]
  exact eqIntS_l0 l hl l.length 0 (by omega)

/-! laws_eqCost -/
theorem eqCost_ev (a b c : List Int) (ha : a.length ≤ 1048576) (hb : b.length ≤ 1048576) (hc : c.length ≤ 1048576) : Ev (fun k => laws_eqCost.f k a b c a b c) true := by
  unfold laws_eqCost.f
  refine Ev.bind (eqIntS_ev a ha) ?_
  simp only [if_true]
  refine Ev.bind (eqIntS_ev b hb) ?_
  simp only [if_true]
  refine Ev.bind (eqIntS_ev c hc) ?_
  simp only [if_true]
  exact Ev.now _

/-! spec_l1In -/
theorem spec_l1In_eq (a b c : Int) : spec_l1In.f a b c = some (decide (b ≤ a ∧ a ≤ c)) := by
  unfold spec_l1In.f
  by_cases h : b ≤ a
  · rw [if_pos h]; simp [h]
  · rw [if_neg h]; simp [h]

/-! spec_l7In -/
def pricesT (l : List Int) (n : Int) : Bool := decide ((l.length : Int) = n) && decide (∀ x ∈ l, 0 ≤ x ∧ x ≤ 1000)
theorem pricesT_iff (l : List Int) (n : Int) : pricesT l n = true ↔ (l.length : Int) = n ∧ ∀ x ∈ l, 0 ≤ x ∧ x ≤ 1000 := by
  unfold pricesT; rw [Bool.and_eq_true, decide_eq_true_iff, decide_eq_true_iff]
theorem spec_l7In_l0 (l : List Int) (hl : l.length ≤ 1048576) (n : Int) (d : Nat) : ∀ j : Nat, j + d = l.length → (∀ x ∈ l.take j, 0 ≤ x ∧ x ≤ 1000) → Ev (fun k => spec_l7In.l0 k l n j) (pricesT l n) := by
  induction d with
  | zero =>
    intro j hj hall
    refine Ev.step (fun k => by simp only [spec_l7In.l0]; rw [if_neg (by omega)]) ?_
    refine evSome ?_
    rw [List.take_of_length_le (by omega)] at hall
    unfold pricesT
    rw [decide_eq_true hall, Bool.and_true]
    rfl
  | succ d ih =>
    intro j hj hall
    have hjl : j < l.length := by omega
    have c1 : (j : Int) < (l.length : Int) := by omega
    have c2 : (0 : Int) ≤ (j : Int) := by omega
    have e4 : wrap64 ((j : Int) + 1) = ((j + 1 : Nat) : Int) := by rw [w64 (by omega) (by omega)]; rfl
    have er : rd l (j : Int) = l[j] := by unfold rd; simp [List.getD_eq_getElem?_getD, List.getElem?_eq_getElem hjl]
    refine Ev.step (fun k => by simp only [spec_l7In.l0]; rw [if_pos c1, if_pos c2, e4, er]) ?_
    simp only [spec_l1In_eq, Option.bind_some, decide_eq_true_eq]
    by_cases h : 0 ≤ l[j] ∧ l[j] ≤ 1000
    · simp only [if_pos h]
      refine ih (j + 1) (by omega) ?_
      rw [List.take_succ_eq_append_getElem hjl]
      intro x hx
      rcases List.mem_append.1 hx with hx | hx
      · exact hall x hx
      · rw [List.mem_singleton.1 hx]; exact h
    · simp only [if_neg h]
      refine evSome ?_
      unfold pricesT
      rw [decide_eq_false (fun ha : ∀ x ∈ l, 0 ≤ x ∧ x ≤ 1000 => h (ha _ (List.getElem_mem hjl))), Bool.and_false]
theorem spec_l7In_ev (l : List Int) (hl : l.length ≤ 1048576) (n : Int) : Ev (fun k => spec_l7In.f k l n) (pricesT l n) := by
  unfold spec_l7In.f
  exact spec_l7In_l0 l hl n l.length 0 (by omega) (by simp)

/-! spec_CostOk -/
def diagGo (r : List Int) : Nat → Nat → Bool
  | 0, _ => true
  | d + 1, j => if rd r ((j : Int) * 6 + j) = 0 then diagGo r d (j + 1) else false
def costT (a b r : List Int) : Bool := if pricesT a 6 = true then if pricesT b 6 = true then if pricesT r 36 = true then diagGo r 6 0 else false else false else false
theorem costT_len {a b r : List Int} (h : costT a b r = true) : a.length = 6 ∧ b.length = 6 ∧ r.length = 36 := by
  unfold costT at h
  by_cases h1 : pricesT a 6 = true
  · by_cases h2 : pricesT b 6 = true
    · by_cases h3 : pricesT r 36 = true
      · have := ((pricesT_iff a 6).1 h1).1
        have := ((pricesT_iff b 6).1 h2).1
        have := ((pricesT_iff r 36).1 h3).1
        omega
      · rw [if_pos h1, if_pos h2, if_neg h3] at h; cases h
    · rw [if_pos h1, if_neg h2] at h; cases h
  · rw [if_neg h1] at h; cases h

theorem spec_CostOk_l0 (a b r : List Int) (hr : r.length = 36) (d : Nat) : ∀ j : Nat, j + d = 6 → Ev (fun k => spec_CostOk.l0 k j a b r) (diagGo r d j) := by
  induction d with
  | zero =>
    intro j hj
    exact Ev.step (f := fun _ => some true) (fun k => by simp only [spec_CostOk.l0]; rw [if_neg (by omega)]) (Ev.now _)
  | succ d ih =>
    intro j hj
    have c1 : (j : Int) < 6 := by omega
    have c2 : (0 : Int) ≤ (j : Int) * 6 + j := by omega
    have c3 : (j : Int) * 6 + j < (r.length : Int) := by omega
    have e1 : wrap64 (wrap64 ((j : Int) * 6) + j) = (j : Int) * 6 + j := by rw [w64 (n := (j : Int) * 6) (by omega) (by omega), w64 (by omega) (by omega)]
    have e4 : wrap64 ((j : Int) + 1) = ((j + 1 : Nat) : Int) := by rw [w64 (by omega) (by omega)]; rfl
    refine Ev.step (fun k => by simp only [spec_CostOk.l0]; rw [if_pos c1, e1, e4, if_pos c2, if_pos c3]) ?_
    simp only [diagGo]
    by_cases h : rd r ((j : Int) * 6 + j) = 0
    · simp only [if_pos h]; exact ih (j + 1) (by omega)
    · simp only [if_neg h]; exact Ev.now _
theorem spec_CostOk_no (a b r : List Int) : Ev (fun k => spec_CostOk.j0 k true a b r) false := by
  refine Ev.step (fun k => by rw [spec_CostOk.j0]) ?_
  simp only [if_true]; exact Ev.now _
theorem spec_CostOk_ev (a b r : List Int) (ha : a.length ≤ 1048576) (hb : b.length ≤ 1048576) (hr : r.length ≤ 1048576) : Ev (fun k => spec_CostOk.f k a b r) (costT a b r) := by
  unfold spec_CostOk.f costT
  refine Ev.bind (spec_l7In_ev a ha 6) ?_
  by_cases h1 : pricesT a 6 = true
  · rw [h1]
    simp only [if_true]
    refine Ev.bind (spec_l7In_ev b hb 6) ?_
    by_cases h2 : pricesT b 6 = true
    · rw [h2]
      simp only [if_true]
      refine Ev.bind (spec_l7In_ev r hr 36) ?_
      by_cases h3 : pricesT r 36 = true
      · rw [h3]
        refine Ev.step (fun k => by rw [spec_CostOk.j0]) ?_
        simp only [Bool.not_true, Bool.false_eq_true, if_false, if_true]
        have hl := ((pricesT_iff r 36).1 h3).1
        exact spec_CostOk_l0 a b r (by omega) 6 0 rfl
      · rw [Bool.eq_false_iff.mpr h3]
        simp only [Bool.not_false, Bool.false_eq_true, if_false]
        exact spec_CostOk_no a b r
    · rw [Bool.eq_false_iff.mpr h2]
      simp only [Bool.false_eq_true, if_false]
      exact spec_CostOk_no a b r
  · rw [Bool.eq_false_iff.mpr h1]
    simp only [Bool.false_eq_true, if_false]
    exact spec_CostOk_no a b r

/-! spec_LabelOk -/
theorem spec_LabelOk_eq (a : Int) : spec_LabelOk.f a = some (decide (0 ≤ a ∧ a ≤ 5)) := by
  unfold spec_LabelOk.f; simp only [spec_l1In_eq, Option.bind_some]

/-! spec_RelCost -/
def relT (a b r : List Int) (i j : Int) : Int := if costT a b r = true ∧ (0 ≤ i ∧ i ≤ 5) ∧ 0 ≤ j ∧ j ≤ 5 then rd r (i * 6 + j) else 0

theorem spec_RelCost_ev (a b r : List Int) (i j : Int) (ha : a.length ≤ 1048576) (hb : b.length ≤ 1048576) (hr : r.length ≤ 1048576) : Ev (fun k => spec_RelCost.f k a b r i j) (relT a b r i j) := by
  unfold spec_RelCost.f
  refine Ev.bind (spec_CostOk_ev a b r ha hb hr) ?_
  simp only [spec_LabelOk_eq, Option.bind_some, decide_eq_true_eq]
  by_cases h1 : costT a b r = true
  · have hl := costT_len h1
    simp only [if_pos h1]
    by_cases h2 : 0 ≤ i ∧ i ≤ 5
    · simp only [if_pos h2]
      by_cases h3 : 0 ≤ j ∧ j ≤ 5
      · have c1 : 0 ≤ i * 6 + j := by omega
        have c2 : i * 6 + j < (r.length : Int) := by omega
        have e1 : wrap64 (wrap64 (i * 6) + j) = i * 6 + j := by rw [w64 (n := i * 6) (by omega) (by omega), w64 (by omega) (by omega)]
        simp only [if_pos h3, e1, if_pos c1, if_pos c2]
        exact evSome (by unfold relT; rw [if_pos ⟨h1, h2, h3⟩])
      · simp only [if_neg h3]
        exact evSome (by unfold relT; rw [if_neg (fun h => h3 h.2.2)])
    · simp only [if_neg h2]
      exact evSome (by unfold relT; rw [if_neg (fun h => h2 h.2.1)])
  · simp only [if_neg h1]
    exact evSome (by unfold relT; rw [if_neg (fun h => h1 h.1)])

/-! impl_within -/
theorem impl_within_eq (a b c : Int) : impl_within.f a b c = some (decide (b ≤ a ∧ a ≤ c)) := by
  unfold impl_within.f
  by_cases h : b ≤ a
  · rw [if_pos h]; simp [h]
  · rw [if_neg h]; simp [h]

/-! impl_pricesOk -/
theorem impl_pricesOk_eq (l : List Int) (n : Int) : impl_pricesOk.f l n = some (pricesT l n) := by
  unfold impl_pricesOk.f pricesT
  congr 2
  have h := badGo_all l 0
  by_cases g : ∀ x ∈ l, priceB x = true
  · have g2 : ¬ (0 ≤ badGo l 0) := fun e => (h.1 e) g
    have g3 : ∀ x ∈ l, 0 ≤ x ∧ x ≤ 1000 := fun x hx => by have := g x hx; unfold priceB at this; exact of_decide_eq_true this
    rw [decide_eq_false g2, decide_eq_true g3]; rfl
  · have g2 : 0 ≤ badGo l 0 := h.2 g
    have g3 : ¬ ∀ x ∈ l, 0 ≤ x ∧ x ≤ 1000 := fun e => g (fun x hx => by unfold priceB; exact decide_eq_true (e x hx))
    rw [decide_eq_true g2, decide_eq_false g3]; rfl

/-! impl_CostOk -/
theorem impl_CostOk_l0 (a b r : List Int) (hr : r.length = 36) (d : Nat) : ∀ j : Nat, j + d = 6 → Ev (fun k => impl_CostOk.l0 k j a b r) (diagGo r d j) := by
  induction d with
  | zero =>
    intro j hj
    exact Ev.step (f := fun _ => some true) (fun k => by simp only [impl_CostOk.l0]; rw [if_neg (by omega)]) (Ev.now _)
  | succ d ih =>
    intro j hj
    have c1 : (j : Int) < 6 := by omega
    have c2 : (0 : Int) ≤ (j : Int) * 6 + j := by omega
    have c3 : (j : Int) * 6 + j < (r.length : Int) := by omega
    have e1 : wrap64 (wrap64 ((j : Int) * 6) + j) = (j : Int) * 6 + j := by rw [w64 (n := (j : Int) * 6) (by omega) (by omega), w64 (by omega) (by omega)]
    have e4 : wrap64 ((j : Int) + 1) = ((j + 1 : Nat) : Int) := by rw [w64 (by omega) (by omega)]; rfl
    refine Ev.step (fun k => by simp only [impl_CostOk.l0]; rw [if_pos c1, e1, e4, if_pos c2, if_pos c3]) ?_
    simp only [diagGo]
    by_cases h : rd r ((j : Int) * 6 + j) = 0
    · simp only [if_pos h]; exact ih (j + 1) (by omega)
    · simp only [if_neg h]; exact Ev.now _
theorem impl_CostOk_no (a b r : List Int) : Ev (fun k => impl_CostOk.j0 k true a b r) false := by
  refine Ev.step (fun k => by rw [impl_CostOk.j0]) ?_
  simp only [if_true]; exact Ev.now _
theorem impl_CostOk_ev (a b r : List Int) (ha : a.length ≤ 1048576) (hb : b.length ≤ 1048576) (hr : r.length ≤ 1048576) : Ev (fun k => impl_CostOk.f k a b r) (costT a b r) := by
  unfold impl_CostOk.f costT
  simp only [impl_pricesOk_eq, Option.bind_some]
  by_cases h1 : pricesT a 6 = true
  · rw [h1]
    simp only [if_true]
    skip
    by_cases h2 : pricesT b 6 = true
    · rw [h2]
      simp only [if_true]
      skip
      by_cases h3 : pricesT r 36 = true
      · rw [h3]
        refine Ev.step (fun k => by rw [impl_CostOk.j0]) ?_
        simp only [Bool.not_true, Bool.false_eq_true, if_false, if_true]
        have hl := ((pricesT_iff r 36).1 h3).1
        exact impl_CostOk_l0 a b r (by omega) 6 0 rfl
      · rw [Bool.eq_false_iff.mpr h3]
        simp only [Bool.not_false, Bool.false_eq_true, if_false]
        exact impl_CostOk_no a b r
    · rw [Bool.eq_false_iff.mpr h2]
      simp only [Bool.false_eq_true, if_false]
      exact impl_CostOk_no a b r
  · rw [Bool.eq_false_iff.mpr h1]
    simp only [Bool.false_eq_true, if_false]
    exact impl_CostOk_no a b r

/-! impl_LabelOk -/
theorem impl_LabelOk_eq (a : Int) : impl_LabelOk.f a = some (decide (0 ≤ a ∧ a ≤ 5)) := by
  unfold impl_LabelOk.f; simp only [impl_within_eq, Option.bind_some]

/-! impl_RelCost -/
theorem impl_RelCost_ev (a b r : List Int) (i j : Int) (ha : a.length ≤ 1048576) (hb : b.length ≤ 1048576) (hr : r.length ≤ 1048576) : Ev (fun k => impl_RelCost.f k a b r i j) (relT a b r i j) := by
  unfold impl_RelCost.f
  refine Ev.bind (impl_CostOk_ev a b r ha hb hr) ?_
  simp only [impl_LabelOk_eq, Option.bind_some, decide_eq_true_eq]
  by_cases h1 : costT a b r = true
  · have hl := costT_len h1
    simp only [if_pos h1]
    by_cases h2 : 0 ≤ i ∧ i ≤ 5
    · simp only [if_pos h2]
      by_cases h3 : 0 ≤ j ∧ j ≤ 5
      · have c1 : 0 ≤ i * 6 + j := by omega
        have c2 : i * 6 + j < (r.length : Int) := by omega
        have e1 : wrap64 (wrap64 (i * 6) + j) = i * 6 + j := by rw [w64 (n := i * 6) (by omega) (by omega), w64 (by omega) (by omega)]
        simp only [if_pos h3, e1, if_pos c1, if_pos c2]
        exact evSome (by unfold relT; rw [if_pos ⟨h1, h2, h3⟩])
      · simp only [if_neg h3]
        exact evSome (by unfold relT; rw [if_neg (fun h => h3 h.2.2)])
    · simp only [if_neg h2]
      exact evSome (by unfold relT; rw [if_neg (fun h => h2 h.2.1)])
  · simp only [if_neg h1]
    exact evSome (by unfold relT; rw [if_neg (fun h => h1 h.1)])

theorem law : ∀ (l0_0 : List Int) (l0_1 : List Int) (l0_2 : List Int) (a1 : Int) (a2 : Int), l0_0.length ≤ maxLen → (∀ x ∈ l0_0, (Lit.int .i64 x).wf = true) → l0_1.length ≤ maxLen → (∀ x ∈ l0_1, (Lit.int .i64 x).wf = true) → l0_2.length ≤ maxLen → (∀ x ∈ l0_2, (Lit.int .i64 x).wf = true) → (Lit.int .i64 a1).wf = true → (Lit.int .i64 a2).wf = true → ∃ k, laws_FnExactRelCost.f k l0_0 l0_1 l0_2 a1 a2 = some true := by
  intro x y z a1 a2 hx _ hy _ hz _ h1 h2
  refine Ev.rounds ?_
  unfold laws_FnExactRelCost.f
  simp only [szC_eq x y z hx hy hz 1048576 (by omega) (by omega), Option.bind_some]
  by_cases h : (1048576 : Int) < x.length + y.length + z.length
  · simp only [if_pos h]; exact Ev.now _
  · have lx : x.length ≤ 1048576 := by omega
    have ly : y.length ≤ 1048576 := by omega
    have lz : z.length ≤ 1048576 := by omega
    simp only [if_neg h, if_neg (show ¬ (1048576 - (x.length : Int) - y.length - z.length < 0) by omega)]
    refine Ev.bind (toCost_ev x y z lx ly lz) (Ev.bind (spec_RelCost_ev x y z a1 a2 lx ly lz) (Ev.bind (toCost_ev x y z lx ly lz) (Ev.bind (impl_RelCost_ev x y z a1 a2 lx ly lz) ?_)))
    simp only [if_true]
    refine Ev.bind (toCost_ev x y z lx ly lz) (Ev.bind (eqCost_ev x y z lx ly lz) ?_)
    simp only [if_true]
    exact Ev.now _

end Go.Proofs.Yteflhablmeelbaa.PureFnExactRelCost
namespace Go.Proofs.Yteflhablmeelbaa.Pure
open Go.RowKit Go.Proofs.Yteflhablmeelbaa.HFnExactRelCost
theorem FnExactRelCost : ∀ (l0_0 : List Int) (l0_1 : List Int) (l0_2 : List Int) (a1 : Int) (a2 : Int), l0_0.length ≤ maxLen → (∀ x ∈ l0_0, (Lit.int .i64 x).wf = true) → l0_1.length ≤ maxLen → (∀ x ∈ l0_1, (Lit.int .i64 x).wf = true) → l0_2.length ≤ maxLen → (∀ x ∈ l0_2, (Lit.int .i64 x).wf = true) → (Lit.int .i64 a1).wf = true → (Lit.int .i64 a2).wf = true → ∃ k, laws_FnExactRelCost.f k l0_0 l0_1 l0_2 a1 a2 = some true := Go.Proofs.Yteflhablmeelbaa.PureFnExactRelCost.law
end Go.Proofs.Yteflhablmeelbaa.Pure
