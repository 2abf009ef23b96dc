/- For every two lists of nodes, the program's SameTree and the reference's SameTree answer the same. Condition: none but the model's own bounds. -/
import Derived.Test.YtejcbclcifnomaaPFnExactSameTreex3
import Derived.Test.YtejcbclcifnomaaM
import Derived.Test.YtejcbclcifnomaaT
namespace Go.Proofs.Ytejcbclcifnomaa.PureFnExactSameTree
open Go.RowKit Go.Proofs.Ytejcbclcifnomaa.PFnExactSameTree Go.Proofs.YtejcbclcifnomaaW.PrintWords Go.Proofs.YtejcbclcifnomaaW.PrintLast Go.Proofs.YtejcbclcifnomaaW.PrintMore Go.Proofs.Ytejcbclcifnomaa.M Go.Proofs.Ytejcbclcifnomaa.T
set_option linter.unusedVariables false
set_option linter.unusedSimpArgs false

abbrev lab (l : List S58) (i : Nat) : Int := (l.getD i z58).f0
abbrev dep (l : List S58) (i : Nat) : Int := (l.getD i z58).f1
theorem rdN (l : List S58) (i : Nat) : rd_T58 l (i : Int) = l.getD i z58 := by unfold rd_T58; simp

/-! laws_szNodeS -/
theorem sz_eq (l : List S60) (hl : l.length ≤ maxLen) (a : Int) (h0 : 0 ≤ a) (h1 : a ≤ 1048576) : laws_szNodeS.f l a = some (if a < l.length then -1 else a - l.length) := by
  have hm : maxLen = 9223372036854775807 := rfl
  unfold laws_szNodeS.f
  rw [w64 (by omega) (by omega)]
  by_cases h : a < l.length
  · rw [if_pos h, if_pos (by omega)]
  · rw [if_neg h, if_neg (by omega)]

/-! spec_SameTree -/
def sameGo (a b : List S58) : Nat → Nat → Bool
  | 0, _ => true
  | d + 1, j => if (!((a.getD j z58).f0 == (b.getD j z58).f0) || (!((a.getD j z58).f1 == (b.getD j z58).f1))) = true then false else sameGo a b d (j + 1)
def sameT (a b : List S58) : Bool := if a.length = b.length then sameGo a b a.length 0 else false

theorem spec_SameTree_l0 (a b : List S58) (ha : a.length ≤ 1048576) (hb : b.length = a.length) (d : Nat) : ∀ j : Nat, j + d = a.length → Ev (fun k => spec_SameTree.l0 k a b j) (sameGo a b d j) := by
  induction d with
  | zero =>
    intro j hj
    exact Ev.step (f := fun _ => some true) (fun k => by simp only [spec_SameTree.l0]; rw [if_neg (by omega)]) (Ev.now _)
  | succ d ih =>
    intro j hj
    have c1 : (j : Int) < (a.length : Int) := by omega
    have c2 : (0 : Int) ≤ (j : Int) := by omega
    have c3 : (j : Int) < (b.length : Int) := by omega
    have e4 : wrap64 ((j : Int) + 1) = ((j + 1 : Nat) : Int) := by rw [w64 (by omega) (by omega)]; rfl
    refine Ev.step (fun k => by simp only [spec_SameTree.l0]; rw [if_pos c1, if_pos c2, if_pos c3, e4, rdN, rdN]) ?_
    simp only [sameGo]
    by_cases h : (!((a.getD j z58).f0 == (b.getD j z58).f0) || (!((a.getD j z58).f1 == (b.getD j z58).f1))) = true
    · simp only [if_pos h]; exact Ev.now _
    · simp only [if_neg h]; exact ih (j + 1) (by omega)

theorem spec_SameTree_ev (a b : List S58) (ha : a.length ≤ 1048576) : Ev (fun k => spec_SameTree.f k a b) (sameT a b) := by
  unfold spec_SameTree.f sameT
  by_cases h : a.length = b.length
  · rw [if_pos h]
    simp only [if_pos (show (a.length : Int) = (b.length : Int) by omega)]
    exact spec_SameTree_l0 a b ha h.symm a.length 0 (by omega)
  · rw [if_neg h]
    simp only [if_neg (show ¬ (a.length : Int) = (b.length : Int) by omega)]; exact Ev.now _

/-! laws_toNodeS -/
def conv (x : S60) : S58 := ⟨x.f0, x.f1⟩
theorem set_grow (xs : List S58) (i : Nat) (x : S58) (m : Nat) (h : xs.length = i) : (xs ++ List.replicate (m + 1) z58).set i x = (xs ++ [x]) ++ List.replicate m z58 := by
  rw [List.set_append_right _ _ (by omega), List.replicate_succ]
  simp [h]
theorem toNodeS_l0 (l : List S60) (hl : l.length ≤ 1048576) (d : Nat) : ∀ i : Nat, i + d = l.length → Ev (fun k => laws_toNodeS.l0 k l ((l.take i).map conv ++ List.replicate d z58) i) (l.map conv) := by
  induction d with
  | zero =>
    intro i hi
    refine Ev.step (fun k => by simp only [laws_toNodeS.l0]; rw [if_neg (by omega)]) ?_
    have e : i = l.length := by omega
    subst e
    exact evSome (by simp)
  | succ d ih =>
    intro i hi
    have c3 : (i : Int) < ((((l.take i).map conv ++ List.replicate (d + 1) z58).length : Nat) : Int) := by simp; omega
    have e4 : wrap64 ((i : Int) + 1) = ((i + 1 : Nat) : Int) := by rw [w64 (by omega) (by omega)]; rfl
    refine Ev.step (fun k => by simp only [laws_toNodeS.l0]; rw [if_pos (by omega), if_pos (by omega)]) ?_
    simp only [laws_toNode.f, Option.bind_some, if_pos c3, e4, Int.toNat_natCast]
    rw [set_grow _ _ _ _ (by simp; omega)]
    have := ih (i + 1) (by omega)
    have hil : i < l.length := by omega
    rw [List.take_succ_eq_append_getElem hil, List.map_append] at this
    have er : rd_T60 l (i : Int) = l[i] := by unfold rd_T60; simp [List.getD_eq_getElem?_getD, List.getElem?_eq_getElem hil]
    rw [er]
    exact this
theorem toNodeS_ev (l : List S60) (hl : l.length ≤ 1048576) : Ev (fun k => laws_toNodeS.f k l) (l.map conv) := by
  unfold laws_toNodeS.f
  have := toNodeS_l0 l hl l.length 0 (by omega)
  simp only [Int.toNat_natCast, if_pos (show (0 : Int) ≤ (l.length : Int) by omega), if_pos (show l.length ≤ 17592186044416 by omega)]
  simpa using this

/-! impl_Node -/
theorem impl_Node_l0 (a b : List S58) (ha : a.length ≤ 1048576) (hb : b.length = a.length) (d : Nat) : ∀ j : Nat, j + d = a.length → Ev (fun k => impl_Node.l0 k a b a.length j) (sameGo a b d j) := by
  induction d with
  | zero =>
    intro j hj
    exact Ev.step (f := fun _ => some true) (fun k => by simp only [impl_Node.l0]; rw [if_neg (by omega)]) (Ev.now _)
  | succ d ih =>
    intro j hj
    have c1 : (j : Int) < (a.length : Int) := by omega
    have c2 : (0 : Int) ≤ (j : Int) := by omega
    have c3 : (j : Int) < (b.length : Int) := by omega
    have e4 : wrap64 ((j : Int) + 1) = ((j + 1 : Nat) : Int) := by rw [w64 (by omega) (by omega)]; rfl
    refine Ev.step (fun k => by simp only [impl_Node.l0]; rw [if_pos c1, if_pos c2, if_pos c1, if_pos c3, e4, rdN, rdN]) ?_
    simp only [sameGo]
    by_cases h : (!((a.getD j z58).f0 == (b.getD j z58).f0) || (!((a.getD j z58).f1 == (b.getD j z58).f1))) = true
    · simp only [if_pos h]; exact Ev.now _
    · simp only [if_neg h]; exact ih (j + 1) (by omega)

theorem impl_Node_ev (a b : List S58) (ha : a.length ≤ 1048576) : Ev (fun k => impl_Node.f k a b) (sameT a b) := by
  unfold impl_Node.f sameT
  by_cases h : a.length = b.length
  · rw [if_pos h]
    simp only [if_pos (show (a.length : Int) = (b.length : Int) by omega)]
    exact impl_Node_l0 a b ha h.symm a.length 0 (by omega)
  · rw [if_neg h]
    simp only [if_neg (show ¬ (a.length : Int) = (b.length : Int) by omega)]; exact Ev.now _

/-! impl_SameTree -/
theorem impl_SameTree_ev (a b : List S58) (ha : a.length ≤ 1048576) : Ev (fun k => impl_SameTree.f k a b) (sameT a b) := by
  unfold impl_SameTree.f
  exact Ev.bind (impl_Node_ev a b ha) (Ev.now _)

/-! laws_eqNodeS -/
theorem eqNodeS_l0 (l : List S58) (hl : l.length ≤ 1048576) (d : Nat) : ∀ i : Nat, i + d = l.length → Ev (fun k => laws_eqNodeS.l0 k l l i) true := by
  induction d with
  | zero => intro i hi; exact Ev.step (fun k => by simp only [laws_eqNodeS.l0]; rw [if_neg (by omega)]) (Ev.now _)
  | succ d ih =>
    intro i hi
    have e4 : wrap64 ((i : Int) + 1) = ((i + 1 : Nat) : Int) := by rw [w64 (by omega) (by omega)]; rfl
    refine Ev.step (fun k => by simp only [laws_eqNodeS.l0]; rw [if_pos (by omega), if_pos (by omega), if_pos (by omega)]) ?_
    simp only [laws_eqNode.f, if_true, Option.bind_some, e4]
    exact ih (i + 1) (by omega)
theorem eqNodeS_ev (l : List S58) (hl : l.length ≤ 1048576) : Ev (fun k => laws_eqNodeS.f k l l) true := by
  unfold laws_eqNodeS.f
  simp only [if_true]
  exact eqNodeS_l0 l hl l.length 0 (by omega)

theorem law : ∀ (l0 : List S60) (l1 : List S60), l0.length ≤ maxLen → (∀ x ∈ l0, (Lit.int .i64 x.f0).wf = true ∧ (Lit.int .i64 x.f1).wf = true) → l1.length ≤ maxLen → (∀ x ∈ l1, (Lit.int .i64 x.f0).wf = true ∧ (Lit.int .i64 x.f1).wf = true) → ∃ k, laws_FnExactSameTree.f k l0 l1 = some true := by
  intro l0 l1 hl0 _ hl1 _
  refine Ev.rounds ?_
  unfold laws_FnExactSameTree.f
  simp only [sz_eq l0 hl0 1048576 (by omega) (by omega), Option.bind_some]
  by_cases h : (1048576 : Int) < l0.length
  · simp only [if_pos h]; exact Ev.now _
  · simp only [if_neg h, if_neg (show ¬ (1048576 - (l0.length : Int) < 0) by omega)]
    simp only [sz_eq l1 hl1 (1048576 - (l0.length : Int)) (by omega) (by omega), Option.bind_some]
    by_cases h2 : (1048576 : Int) - (l0.length : Int) < l1.length
    · simp only [if_pos h2]; exact Ev.now _
    · have ha : (l0.map conv).length ≤ 1048576 := by simp; omega
      have hb : (l1.map conv).length ≤ 1048576 := by simp; omega
      simp only [if_neg h2, if_neg (show ¬ (1048576 - (l0.length : Int) - (l1.length : Int) < 0) by omega)]
      refine Ev.bind (toNodeS_ev l0 (by omega)) (Ev.bind (toNodeS_ev l1 (by omega)) (Ev.bind (spec_SameTree_ev _ _ ha) (Ev.bind (toNodeS_ev l0 (by omega)) (Ev.bind (toNodeS_ev l1 (by omega)) (Ev.bind (impl_SameTree_ev _ _ ha) ?_)))))
      simp only [bne_self_eq_false, Bool.false_eq_true, if_false]
      refine Ev.bind (toNodeS_ev l0 (by omega)) (Ev.bind (eqNodeS_ev _ ha) ?_)
      simp only [if_true]
      refine Ev.bind (toNodeS_ev l1 (by omega)) (Ev.bind (eqNodeS_ev _ hb) ?_)
      simp only [if_true]
      exact Ev.now _

end Go.Proofs.Ytejcbclcifnomaa.PureFnExactSameTree
namespace Go.Proofs.Ytejcbclcifnomaa.Pure
open Go.RowKit Go.Proofs.Ytejcbclcifnomaa.PFnExactSameTree
theorem FnExactSameTree : ∀ (l0 : List S60) (l1 : List S60), l0.length ≤ maxLen → (∀ x ∈ l0, (Lit.int .i64 x.f0).wf = true ∧ (Lit.int .i64 x.f1).wf = true) → l1.length ≤ maxLen → (∀ x ∈ l1, (Lit.int .i64 x.f0).wf = true ∧ (Lit.int .i64 x.f1).wf = true) → ∃ k, laws_FnExactSameTree.f k l0 l1 = some true := Go.Proofs.Ytejcbclcifnomaa.PureFnExactSameTree.law
end Go.Proofs.Ytejcbclcifnomaa.Pure
