/- The program's UnitCost and the reference's UnitCost return the same: both are run. Condition: none. -/
import Derived.Test.YtejcbclcifnomaaHFnExactUnitCostx3
import Derived.Test.YtejcbclcifnomaaM
import Derived.Test.YtejcbclcifnomaaMB
import Derived.Test.YtejcbclcifnomaaTB
namespace Go.Proofs.Ytejcbclcifnomaa.PureFnExactUnitCost
open Go.RowKit Go.Proofs.Ytejcbclcifnomaa.HFnExactUnitCost Go.Proofs.YtejcbclcifnomaaW.PrintWords Go.Proofs.YtejcbclcifnomaaW.PrintLast Go.Proofs.YtejcbclcifnomaaW.PrintMore Go.Proofs.Ytejcbclcifnomaa.M
set_option linter.unusedVariables false
set_option linter.unusedSimpArgs false

/-! laws_eqIntS -/
theorem eqIntS_l0 (l : List Int) (hl : l.length ≤ 1048576) (d : Nat) : ∀ i : Nat, i + d = l.length → Ev (fun k => laws_eqIntS.l0 k l l i) true := by
  induction d with
  | zero => intro i hi; exact Ev.step (fun k => by simp only [laws_eqIntS.l0]; rw [if_neg (by omega)]) (Ev.now _)
  | succ d ih =>
    intro i hi
    have e4 : wrap64 ((i : Int) + 1) = ((i + 1 : Nat) : Int) := by rw [w64 (by omega) (by omega)]; rfl
    refine Ev.step (fun k => by simp only [laws_eqIntS.l0]; rw [if_pos (by omega), if_pos (by omega), if_pos (by omega)]) ?_
    simp only [if_true, e4]
    exact ih (i + 1) (by omega)
theorem eqIntS_ev (l : List Int) (hl : l.length ≤ 1048576) : Ev (fun k => laws_eqIntS.f k l l) true := by
  unfold laws_eqIntS.f
  simp only [if_true]
  exact eqIntS_l0 l hl l.length 0 (by omega)

/-! laws_eqCost -/
theorem eqCost_ev (a b c : List Int) (ha : a.length ≤ 1048576) (hb : b.length ≤ 1048576) (hc : c.length ≤ 1048576) : Ev (fun k => laws_eqCost.f k a b c a b c) true := by
  unfold laws_eqCost.f
  refine Ev.bind (eqIntS_ev a ha) ?_
  simp only [if_true]
  refine Ev.bind (eqIntS_ev b hb) ?_
  simp only [if_true]
  refine Ev.bind (eqIntS_ev c hc) ?_
  simp only [if_true]
  exact Ev.now _

/-! laws_markIntS -/
def markedI : Int → List Int → List Int
  | _, [] => []
  | x, _ :: l => x :: markedI (x + 1) l
theorem markedI_len : ∀ (l : List Int) (x : Int), (markedI x l).length = l.length
  | [], _ => rfl
  | _ :: l, x => by simp [markedI, markedI_len l]
theorem markI_l0 : ∀ (rest pre : List Int) (x : Int), pre.length + rest.length ≤ 1048576 → 0 ≤ x → x ≤ 4194304 + (pre.length : Int) → Ev (fun k => laws_markIntS.l0 k (pre ++ rest) x pre.length) (x + rest.length, pre ++ markedI x rest)
  | [], pre, x, hl, h0, h1 => by
    refine Ev.step (fun k => by simp only [laws_markIntS.l0]; rw [if_neg (by simp)]) ?_
    exact evSome (by simp [markedI])
  | a :: rest, pre, x, hl, h0, h1 => by
    simp only [List.length_cons] at hl
    have c1 : (pre.length : Int) < ((pre ++ a :: rest).length : Int) := by simp; omega
    have c2 : (0 : Int) ≤ (pre.length : Int) := by omega
    have e4 : wrap64 ((pre.length : Int) + 1) = ((pre.length + 1 : Nat) : Int) := by rw [w64 (by omega) (by omega)]; rfl
    have e5 : wrap64 (x + 1) = x + 1 := w64 (by omega) (by omega)
    have hs : (pre ++ a :: rest).set pre.length x = pre ++ x :: rest := by rw [List.set_append_right _ _ (Nat.le_refl _)]; simp
    refine Ev.step (fun k => by simp only [laws_markIntS.l0]; rw [if_pos c1, if_pos c2, e4, e5, Int.toNat_natCast, hs]) ?_
    have ih := markI_l0 rest (pre ++ [x]) (x + 1) (by simp; omega) (by omega) (by simp; omega)
    simp only [List.length_append, List.length_cons, List.length_nil, List.append_assoc, List.cons_append, List.nil_append] at ih
    simp only [markedI, List.length_cons]
    rw [show x + ((rest.length + 1 : Nat) : Int) = x + 1 + (rest.length : Int) by omega]
    exact ih
theorem markI_ev (l : List Int) (hl : l.length ≤ 1048576) : Ev (fun k => laws_markIntS.f k l 1) (1 + l.length, markedI 1 l) := by
  have := markI_l0 l [] 1 (by simpa using hl) (by omega) (by simp)
  simpa [laws_markIntS.f] using this

/-! laws_heldIntS -/
theorem heldI_l0 : ∀ (rest pre : List Int) (x : Int), pre.length + rest.length ≤ 1048576 → 0 ≤ x → x ≤ 4194304 + (pre.length : Int) → Ev (fun k => laws_heldIntS.l0 k (pre ++ markedI x rest) x pre.length) (x + rest.length)
  | [], pre, x, hl, h0, h1 => by
    refine Ev.step (fun k => by simp only [laws_heldIntS.l0]; rw [if_neg (by simp [markedI])]) ?_
    exact evSome (by simp)
  | a :: rest, pre, x, hl, h0, h1 => by
    simp only [List.length_cons] at hl
    have c1 : (pre.length : Int) < ((pre ++ markedI x (a :: rest)).length : Int) := by simp [markedI]; omega
    have c2 : (0 : Int) ≤ (pre.length : Int) := by omega
    have e4 : wrap64 ((pre.length : Int) + 1) = ((pre.length + 1 : Nat) : Int) := by rw [w64 (by omega) (by omega)]; rfl
    have e5 : wrap64 (x + 1) = x + 1 := w64 (by omega) (by omega)
    have hr : rd (pre ++ markedI x (a :: rest)) (pre.length : Int) = x := by unfold rd; simp [List.getD_eq_getElem?_getD, markedI]
    refine Ev.step (fun k => by simp only [laws_heldIntS.l0]; rw [if_pos c1, if_pos c2, hr, e5, e4]) ?_
    simp only [if_true]
    have ih := heldI_l0 rest (pre ++ [x]) (x + 1) (by simp; omega) (by omega) (by simp; omega)
    simp only [List.length_append, List.length_cons, List.length_nil, List.append_assoc, List.cons_append, List.nil_append] at ih
    simp only [markedI, List.length_cons]
    rw [show x + ((rest.length + 1 : Nat) : Int) = x + 1 + (rest.length : Int) by omega]
    exact ih
theorem heldI_ev (l : List Int) (hl : l.length ≤ 1048576) : Ev (fun k => laws_heldIntS.f k (markedI 1 l) 1) (1 + l.length) := by
  have := heldI_l0 l [] 1 (by simpa using hl) (by omega) (by simp)
  simpa [laws_heldIntS.f] using this

theorem law : laws_FnExactUnitCost.Pure := by
  refine ⟨200, ?_⟩
  kernel_rfl

end Go.Proofs.Ytejcbclcifnomaa.PureFnExactUnitCost
namespace Go.Proofs.Ytejcbclcifnomaa.Pure
open Go.RowKit Go.Proofs.Ytejcbclcifnomaa.HFnExactUnitCost
theorem FnExactUnitCost : laws_FnExactUnitCost.Pure := Go.Proofs.Ytejcbclcifnomaa.PureFnExactUnitCost.law
end Go.Proofs.Ytejcbclcifnomaa.Pure
