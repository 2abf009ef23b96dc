/- For every text, the program's Unhex and the reference's Unhex give the same text and the same word. Condition: none but the model's own bound on a text's size. -/
import Derived.Test.YtejcbclcifnomaaPFnExactUnhexx1
import Derived.Test.YtejcbclcifnomaaM
namespace Go.Proofs.Ytejcbclcifnomaa.PureFnExactUnhex
open Go.RowKit Go.Proofs.Ytejcbclcifnomaa.PFnExactUnhex Go.Proofs.YtejcbclcifnomaaW.PrintWords Go.Proofs.YtejcbclcifnomaaW.PrintLast Go.Proofs.YtejcbclcifnomaaW.PrintMore Go.Proofs.Ytejcbclcifnomaa.M
set_option linter.unusedVariables false
set_option linter.unusedSimpArgs false

/-! spec_l1Digit -/
theorem spec_l1Digit_eq {x : Int} (h0 : 0 ≤ x) (h1 : x < 16) : spec_l1Digit.f x = some (hexD x) := by
  unfold spec_l1Digit.f; rw [if_pos h0, if_pos h1]; rfl

/-! spec_l1FromHex -/
theorem hexD_lo (i : Nat) (h : i < 10) : hexD i = 48 + i := by
  match i, h with
  | 0, _ | 1, _ | 2, _ | 3, _ | 4, _ | 5, _ | 6, _ | 7, _ | 8, _ | 9, _ => rfl
theorem hexD_hi (i : Nat) (h : i < 6) : hexD ((i + 10 : Nat) : Int) = 97 + i := by
  match i, h with
  | 0, _ | 1, _ | 2, _ | 3, _ | 4, _ | 5, _ => rfl
def hexV (x : Int) : Int := if 48 ≤ x ∧ x ≤ 57 then x - 48 else if 97 ≤ x ∧ x ≤ 102 then x - 87 else -1
theorem hexV_range (x : Int) : -1 ≤ hexV x ∧ hexV x ≤ 15 := by
  unfold hexV
  by_cases h1 : 48 ≤ x ∧ x ≤ 57
  · rw [if_pos h1]; omega
  · rw [if_neg h1]
    by_cases h2 : 97 ≤ x ∧ x ≤ 102
    · rw [if_pos h2]; omega
    · rw [if_neg h2]; omega
theorem hexV_hexD (i : Nat) (h : i < 16) : hexV (hexD i) = i := by
  unfold hexV
  by_cases h1 : i < 10
  · rw [hexD_lo i h1, if_pos (by omega)]; omega
  · have := hexD_hi (i - 10) (by omega)
    rw [show i - 10 + 10 = i by omega] at this
    rw [this, if_neg (by omega), if_pos (by omega)]; omega
theorem hexV_none (x : Int) (h : ∀ i : Nat, i < 16 → hexD i ≠ x) : hexV x = -1 := by
  unfold hexV
  by_cases h1 : 48 ≤ x ∧ x ≤ 57
  · have := h (x - 48).toNat (by omega)
    rw [hexD_lo _ (by omega)] at this; omega
  · rw [if_neg h1]
    by_cases h2 : 97 ≤ x ∧ x ≤ 102
    · have := h ((x - 97).toNat + 10) (by omega)
      rw [hexD_hi _ (by omega)] at this; omega
    · rw [if_neg h2]
theorem spec_l1FromHex_l0 (x : Int) (d : Nat) : ∀ j : Nat, j + d = 16 → (∀ i, i < j → hexD i ≠ x) → Ev (fun k => spec_l1FromHex.l0 k x j) (hexV x) := by
  induction d with
  | zero =>
    intro j hj hall
    refine Ev.step (fun k => by simp only [spec_l1FromHex.l0]; rw [if_neg (by omega)]) ?_
    exact evSome (hexV_none x (fun i hi => hall i (by omega))).symm
  | succ d ih =>
    intro j hj hall
    have c1 : (j : Int) < 16 := by omega
    have e4 : wrap64 ((j : Int) + 1) = ((j + 1 : Nat) : Int) := by rw [w64 (by omega) (by omega)]; rfl
    refine Ev.step (fun k => by simp only [spec_l1FromHex.l0]; rw [if_pos c1, e4]) ?_
    simp only [spec_l1Digit_eq (show (0 : Int) ≤ (j : Int) by omega) c1, Option.bind_some]
    by_cases h : hexD (j : Int) = x
    · simp only [if_pos h]
      refine evSome ?_
      rw [← h, hexV_hexD j (by omega)]
    · simp only [if_neg h]
      refine ih (j + 1) (by omega) (fun i hi => ?_)
      by_cases e : i = j
      · rw [e]; exact h
      · exact hall i (by omega)
theorem spec_l1FromHex_ev (x : Int) (h0 : 0 ≤ x) (h1 : x ≤ 255) : Ev (fun k => spec_l1FromHex.f k x) (hexV x) := by
  unfold spec_l1FromHex.f
  exact spec_l1FromHex_l0 x 16 0 rfl (fun i hi => by omega)

/-! spec_Unhex -/
def unhexGo (s : ByteArray) : Nat → Nat → List Int → ByteArray × Bool
  | 0, _, acc => (strOfNums acc, true)
  | d + 1, i, acc =>
    if hexV (bt s (i : Int)) < 0 then (⟨#[]⟩, false)
    else if hexV (bt s ((i + 1 : Nat) : Int)) < 0 then (⟨#[]⟩, false)
    else unhexGo s d (i + 2) (acc ++ [(16 * hexV (bt s (i : Int)) + hexV (bt s ((i + 1 : Nat) : Int))) % 256])
def unhexT (s : ByteArray) : ByteArray × Bool := if (s.size : Int) % 2 = 1 then (⟨#[]⟩, false) else unhexGo s (s.size / 2) 0 []

theorem spec_Unhex_l0 (s : ByteArray) (hs : s.size ≤ 1048576) (d : Nat) : ∀ (i : Nat) (acc : List Int), i + 2 * d = s.size → acc.length ≤ i → Ev (fun k => spec_Unhex.l0 k s acc i) (unhexGo s d i acc) := by
  induction d with
  | zero =>
    intro i acc hi ha
    exact Ev.step (f := fun _ => some (strOfNums acc, true)) (fun k => by simp only [spec_Unhex.l0]; rw [if_neg (by omega)]) (Ev.now _)
  | succ d ih =>
    intro i acc hi ha
    have c1 : (i : Int) < (s.size : Int) := by omega
    have c2 : (0 : Int) ≤ (i : Int) := by omega
    have c3 : (0 : Int) ≤ ((i + 1 : Nat) : Int) := by omega
    have c4 : ((i + 1 : Nat) : Int) < (s.size : Int) := by omega
    have c5 : acc.length < 140737488355328 := by omega
    have b1 := bt_u8 s (i : Int)
    have b2 := bt_u8 s ((i + 1 : Nat) : Int)
    have h1 := hexV_range (bt s (i : Int))
    have h2 := hexV_range (bt s ((i + 1 : Nat) : Int))
    have e4 : wrap64 ((i : Int) + 1) = ((i + 1 : Nat) : Int) := by rw [w64 (by omega) (by omega)]; rfl
    have e5 : wrap64 ((i : Int) + 2) = ((i + 2 : Nat) : Int) := by rw [w64 (by omega) (by omega)]; rfl
    refine Ev.step (fun k => by rw [spec_Unhex.l0, if_pos c1, if_pos c2, e4, e5]) ?_
    refine Ev.bind (spec_l1FromHex_ev _ b1.1 b1.2) ?_
    simp only [if_pos c3, if_pos c4]
    refine Ev.bind (spec_l1FromHex_ev _ b2.1 b2.2) ?_
    simp only [unhexGo]
    by_cases n1 : hexV (bt s (i : Int)) < 0
    · simp only [if_pos n1]; exact Ev.now _
    · simp only [if_neg n1]
      by_cases n2 : hexV (bt s ((i + 1 : Nat) : Int)) < 0
      · simp only [if_pos n2]; exact Ev.now _
      · simp only [if_neg n2, if_pos c5]
        have e6 : wrap64 (wrap64 (16 * hexV (bt s (i : Int))) + hexV (bt s ((i + 1 : Nat) : Int))) = 16 * hexV (bt s (i : Int)) + hexV (bt s ((i + 1 : Nat) : Int)) := by
          rw [w64 (n := 16 * hexV (bt s (i : Int))) (by omega) (by omega), w64 (by omega) (by omega)]
        rw [e6]
        exact ih (i + 2) _ (by omega) (by simp; omega)
theorem spec_Unhex_ev (s : ByteArray) (hs : s.size ≤ 1048576) : Ev (fun k => spec_Unhex.f k s) (unhexT s) := by
  unfold spec_Unhex.f unhexT
  by_cases h : (s.size : Int) % 2 = 1
  · simp only [if_pos h]; exact Ev.now _
  · simp only [if_neg h]
    exact spec_Unhex_l0 s hs (s.size / 2) 0 [] (by omega) (by simp)

/-! impl_half -/
theorem impl_half_ev (x : Int) (h0 : 0 ≤ x) (h1 : x ≤ 255) : Ev (fun k => impl_half.f k x) (hexV x) := by
  unfold impl_half.f
  by_cases a1 : x ≥ 48
  · simp only [if_pos a1]
    refine Ev.step (fun k => by rw [impl_half.j0]) ?_
    by_cases a2 : x ≤ 57
    · have e : hexV x = x - 48 := by unfold hexV; rw [if_pos ⟨a1, a2⟩]
      simp only [decide_eq_true a2, if_true, e]
      exact evSome (by omega)
    · simp only [decide_eq_false a2, Bool.false_eq_true, if_false]
      by_cases a3 : x ≥ 97
      · simp only [if_pos a3]
        by_cases a4 : x ≤ 102
        · have e : hexV x = x - 87 := by unfold hexV; rw [if_neg (fun h => a2 h.2), if_pos ⟨a3, a4⟩]
          simp only [if_pos a4, e]
          exact evSome (by omega)
        · have e : hexV x = -1 := by unfold hexV; rw [if_neg (fun h => a2 h.2), if_neg (fun h => a4 h.2)]
          simp only [if_neg a4, e]
          exact Ev.now _
      · have e : hexV x = -1 := by unfold hexV; rw [if_neg (fun h => a2 h.2), if_neg (fun h => a3 h.1)]
        simp only [if_neg a3, e]
        exact Ev.now _
  · have e : hexV x = -1 := by unfold hexV; rw [if_neg (fun h => a1 h.1), if_neg (fun h => by omega)]
    simp only [if_neg a1, e]
    refine Ev.step (fun k => by rw [impl_half.j0]) ?_
    simp only [Bool.false_eq_true, if_false, if_neg (show ¬ x ≥ 97 by omega)]
    exact Ev.now _

/-! impl_Unhex -/
theorem impl_Unhex_l0 (s : ByteArray) (hs : s.size ≤ 1048576) (d : Nat) : ∀ (i : Nat) (acc : List Int), i + 2 * d = s.size → acc.length ≤ i → Ev (fun k => impl_Unhex.l0 k s acc i) (unhexGo s d i acc) := by
  induction d with
  | zero =>
    intro i acc hi ha
    exact Ev.step (f := fun _ => some (strOfNums acc, true)) (fun k => by simp only [impl_Unhex.l0]; rw [if_neg (by omega)]) (Ev.now _)
  | succ d ih =>
    intro i acc hi ha
    have c1 : (i : Int) < (s.size : Int) := by omega
    have c2 : (0 : Int) ≤ (i : Int) := by omega
    have c3 : (0 : Int) ≤ ((i + 1 : Nat) : Int) := by omega
    have c4 : ((i + 1 : Nat) : Int) < (s.size : Int) := by omega
    have c5 : acc.length < 140737488355328 := by omega
    have b1 := bt_u8 s (i : Int)
    have b2 := bt_u8 s ((i + 1 : Nat) : Int)
    have h1 := hexV_range (bt s (i : Int))
    have h2 := hexV_range (bt s ((i + 1 : Nat) : Int))
    have e4 : wrap64 ((i : Int) + 1) = ((i + 1 : Nat) : Int) := by rw [w64 (by omega) (by omega)]; rfl
    have e5 : wrap64 ((i : Int) + 2) = ((i + 2 : Nat) : Int) := by rw [w64 (by omega) (by omega)]; rfl
    refine Ev.step (fun k => by rw [impl_Unhex.l0, if_pos c1, if_pos c2, e4, e5]) ?_
    refine Ev.bind (impl_half_ev _ b1.1 b1.2) ?_
    simp only [if_pos c3, if_pos c4]
    refine Ev.bind (impl_half_ev _ b2.1 b2.2) ?_
    simp only [unhexGo]
    by_cases n1 : hexV (bt s (i : Int)) < 0
    · simp only [if_pos n1]; exact Ev.now _
    · simp only [if_neg n1]
      by_cases n2 : hexV (bt s ((i + 1 : Nat) : Int)) < 0
      · simp only [if_pos n2]; exact Ev.now _
      · simp only [if_neg n2, if_pos c5]
        have e6 : wrap64 (wrap64 (16 * hexV (bt s (i : Int))) + hexV (bt s ((i + 1 : Nat) : Int))) = 16 * hexV (bt s (i : Int)) + hexV (bt s ((i + 1 : Nat) : Int)) := by
          rw [w64 (n := 16 * hexV (bt s (i : Int))) (by omega) (by omega), w64 (by omega) (by omega)]
        rw [e6]
        exact ih (i + 2) _ (by omega) (by simp; omega)
theorem impl_Unhex_ev (s : ByteArray) (hs : s.size ≤ 1048576) : Ev (fun k => impl_Unhex.f k s) (unhexT s) := by
  unfold impl_Unhex.f unhexT
  by_cases h : (s.size : Int) % 2 = 1
  · simp only [if_pos h]; exact Ev.now _
  · simp only [if_neg h]
    exact impl_Unhex_l0 s hs (s.size / 2) 0 [] (by omega) (by simp)

theorem law : laws_FnExactUnhex.Pure := by
  intro a0 _
  refine Ev.rounds ?_
  unfold laws_FnExactUnhex.f
  by_cases h : (a0.size : Int) > 1048576
  · simp only [if_pos h]; exact Ev.now _
  · simp only [if_neg h]
    refine Ev.bind (spec_Unhex_ev a0 (by omega)) (Ev.bind (impl_Unhex_ev a0 (by omega)) ?_)
    simp only [if_true, bne_self_eq_false, Bool.false_eq_true, if_false]
    exact Ev.now _

end Go.Proofs.Ytejcbclcifnomaa.PureFnExactUnhex
namespace Go.Proofs.Ytejcbclcifnomaa.Pure
open Go.RowKit Go.Proofs.Ytejcbclcifnomaa.PFnExactUnhex
theorem FnExactUnhex : laws_FnExactUnhex.Pure := Go.Proofs.Ytejcbclcifnomaa.PureFnExactUnhex.law
end Go.Proofs.Ytejcbclcifnomaa.Pure
