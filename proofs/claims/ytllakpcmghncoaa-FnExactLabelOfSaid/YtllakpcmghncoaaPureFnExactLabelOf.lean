/- For every text, the program's LabelOf and the reference's LabelOf give the same number. Condition: none but the model's own bound on a text's size. -/
import Derived.Test.YtllakpcmghncoaaHFnExactLabelOfx1
import Derived.Test.YtllakpcmghncoaaM
namespace Go.Proofs.Ytllakpcmghncoaa.PureFnExactLabelOf
open Go.RowKit Go.Proofs.Ytllakpcmghncoaa.HFnExactLabelOf Go.Proofs.YtllakpcmghncoaaW.PrintWords Go.Proofs.YtllakpcmghncoaaW.PrintLast Go.Proofs.YtllakpcmghncoaaW.PrintMore Go.Proofs.Ytllakpcmghncoaa.M
set_option linter.unusedVariables false
set_option linter.unusedSimpArgs false

/-! spec_l1In -/
theorem spec_l1In_eq (a b c : Int) : spec_l1In.f a b c = some (decide (b ≤ a ∧ a ≤ c)) := by
  unfold spec_l1In.f
  by_cases h : b ≤ a
  · rw [if_pos h]; simp [h]
  · rw [if_neg h]; simp [h]

/-! spec_LabelOk -/
theorem spec_LabelOk_eq (a : Int) : spec_LabelOk.f a = some (decide (0 ≤ a ∧ a ≤ 5)) := by
  unfold spec_LabelOk.f; simp only [spec_l1In_eq, Option.bind_some]

/-! spec_LabelName -/
def nameS (a : Int) : ByteArray := if a = 0 then ⟨#[100, 105, 118]⟩ else if a = 1 then ⟨#[112]⟩ else if a = 2 then ⟨#[97]⟩ else if a = 3 then ⟨#[117, 108]⟩ else if a = 4 then ⟨#[108, 105]⟩ else if a = 5 then ⟨#[98]⟩ else ⟨#[]⟩
theorem nameS_no (a : Int) (h : ¬ (0 ≤ a ∧ a ≤ 5)) : nameS a = ⟨#[]⟩ := by
  unfold nameS
  rw [if_neg (by omega), if_neg (by omega), if_neg (by omega), if_neg (by omega), if_neg (by omega), if_neg (by omega)]
theorem spec_LabelName_eq (a : Int) : spec_LabelName.f a = some (nameS a) := by
  unfold spec_LabelName.f
  simp only [spec_LabelOk_eq, Option.bind_some, decide_eq_true_eq]
  by_cases h : 0 ≤ a ∧ a ≤ 5
  · rw [if_pos h, if_pos h.1]
    obtain ⟨n, rfl⟩ := Int.eq_ofNat_of_zero_le h.1
    have hn : n < 6 := by omega
    match n, hn with
    | 0, _ | 1, _ | 2, _ | 3, _ | 4, _ | 5, _ => rfl
  · rw [if_neg h, nameS_no a h]

/-! spec_LabelOf -/
/-- The first label, from j on, that bears the name s. -/
def ofGo (s : ByteArray) : Nat → Nat → Int
  | 0, _ => -1
  | d + 1, j => if (nameS (j : Int)).toList = s.toList then (j : Int) else ofGo s d (j + 1)
def labelT (s : ByteArray) : Int := ofGo s 6 0

theorem spec_LabelOf_l0 (s : ByteArray) (d : Nat) : ∀ j : Nat, j + d = 6 → Ev (fun k => spec_LabelOf.l0 k s j) (ofGo s d j) := by
  induction d with
  | zero =>
    intro j hj
    exact Ev.step (f := fun _ => some (-1)) (fun k => by simp only [spec_LabelOf.l0]; rw [if_neg (by omega)]) (Ev.now _)
  | succ d ih =>
    intro j hj
    have c1 : (j : Int) < 6 := by omega
    have e4 : wrap64 ((j : Int) + 1) = ((j + 1 : Nat) : Int) := by rw [w64 (by omega) (by omega)]; rfl
    refine Ev.step (fun k => by simp only [spec_LabelOf.l0]; rw [if_pos c1, e4]) ?_
    simp only [spec_LabelName_eq, Option.bind_some, ofGo]
    by_cases h : (nameS (j : Int)).toList = s.toList
    · simp only [if_pos h]; exact Ev.now _
    · simp only [if_neg h]; exact ih (j + 1) (by omega)
theorem spec_LabelOf_ev (s : ByteArray) : Ev (fun k => spec_LabelOf.f k s) (labelT s) := spec_LabelOf_l0 s 6 0 rfl

/-! impl_LabelName -/
theorem impl_LabelName_eq (a : Int) : impl_LabelName.f a = some (nameS a) := rfl

/-! impl_LabelOf -/
theorem impl_LabelOf_l0 (s : ByteArray) (d : Nat) : ∀ j : Nat, j + d = 6 → Ev (fun k => impl_LabelOf.l0 k s j) (ofGo s d j) := by
  induction d with
  | zero =>
    intro j hj
    exact Ev.step (f := fun _ => some (-1)) (fun k => by simp only [impl_LabelOf.l0]; rw [if_neg (by omega)]) (Ev.now _)
  | succ d ih =>
    intro j hj
    have c1 : (j : Int) < 6 := by omega
    have e4 : wrap64 ((j : Int) + 1) = ((j + 1 : Nat) : Int) := by rw [w64 (by omega) (by omega)]; rfl
    refine Ev.step (fun k => by simp only [impl_LabelOf.l0]; rw [if_pos c1, e4]) ?_
    simp only [impl_LabelName_eq, Option.bind_some, ofGo]
    by_cases h : (nameS (j : Int)).toList = s.toList
    · simp only [if_pos h]; exact Ev.now _
    · simp only [if_neg h]; exact ih (j + 1) (by omega)
theorem impl_LabelOf_ev (s : ByteArray) : Ev (fun k => impl_LabelOf.f k s) (labelT s) := impl_LabelOf_l0 s 6 0 rfl

theorem law : laws_FnExactLabelOf.Pure := by
  intro a0 _
  refine Ev.rounds ?_
  unfold laws_FnExactLabelOf.f
  by_cases h : (a0.size : Int) > 1048576
  · simp only [if_pos h]; exact Ev.now _
  · simp only [if_neg h]
    refine Ev.bind (spec_LabelOf_ev a0) (Ev.bind (impl_LabelOf_ev a0) ?_)
    simp only [if_true]
    exact Ev.now _

end Go.Proofs.Ytllakpcmghncoaa.PureFnExactLabelOf
namespace Go.Proofs.Ytllakpcmghncoaa.Pure
open Go.RowKit Go.Proofs.Ytllakpcmghncoaa.HFnExactLabelOf
theorem FnExactLabelOf : laws_FnExactLabelOf.Pure := Go.Proofs.Ytllakpcmghncoaa.PureFnExactLabelOf.law
end Go.Proofs.Ytllakpcmghncoaa.Pure
