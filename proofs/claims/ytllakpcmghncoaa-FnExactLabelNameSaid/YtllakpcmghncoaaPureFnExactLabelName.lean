/- For every whole number, the program's LabelName and the reference's LabelName give the same text. Condition: the number is one of int's 64 bits. -/
import Derived.Test.YtllakpcmghncoaaHFnExactLabelNamex1
import Derived.Test.YtllakpcmghncoaaM
namespace Go.Proofs.Ytllakpcmghncoaa.PureFnExactLabelName
open Go.RowKit Go.Proofs.Ytllakpcmghncoaa.HFnExactLabelName Go.Proofs.YtllakpcmghncoaaW.PrintWords Go.Proofs.YtllakpcmghncoaaW.PrintLast Go.Proofs.YtllakpcmghncoaaW.PrintMore Go.Proofs.Ytllakpcmghncoaa.M
set_option linter.unusedVariables false
set_option linter.unusedSimpArgs false

/-! spec_l1In -/
theorem spec_l1In_eq (a b c : Int) : spec_l1In.f a b c = some (decide (b ≤ a ∧ a ≤ c)) := by
  unfold spec_l1In.f
  by_cases h : b ≤ a
  · rw [if_pos h]; simp [h]
  · rw [if_neg h]; simp [h]

/-! spec_LabelOk -/
theorem spec_LabelOk_eq (a : Int) : spec_LabelOk.f a = some (decide (0 ≤ a ∧ a ≤ 5)) := by
  unfold spec_LabelOk.f; simp only [spec_l1In_eq, Option.bind_some]

/-! spec_LabelName -/
def nameS (a : Int) : ByteArray := if a = 0 then ⟨#[100, 105, 118]⟩ else if a = 1 then ⟨#[112]⟩ else if a = 2 then ⟨#[97]⟩ else if a = 3 then ⟨#[117, 108]⟩ else if a = 4 then ⟨#[108, 105]⟩ else if a = 5 then ⟨#[98]⟩ else ⟨#[]⟩
theorem nameS_no (a : Int) (h : ¬ (0 ≤ a ∧ a ≤ 5)) : nameS a = ⟨#[]⟩ := by
  unfold nameS
  rw [if_neg (by omega), if_neg (by omega), if_neg (by omega), if_neg (by omega), if_neg (by omega), if_neg (by omega)]
theorem spec_LabelName_eq (a : Int) : spec_LabelName.f a = some (nameS a) := by
  unfold spec_LabelName.f
  simp only [spec_LabelOk_eq, Option.bind_some, decide_eq_true_eq]
  by_cases h : 0 ≤ a ∧ a ≤ 5
  · rw [if_pos h, if_pos h.1]
    obtain ⟨n, rfl⟩ := Int.eq_ofNat_of_zero_le h.1
    have hn : n < 6 := by omega
    match n, hn with
    | 0, _ | 1, _ | 2, _ | 3, _ | 4, _ | 5, _ => rfl
  · rw [if_neg h, nameS_no a h]

/-! impl_LabelName -/
theorem impl_LabelName_eq (a : Int) : impl_LabelName.f a = some (nameS a) := rfl

theorem law : laws_FnExactLabelName.Pure := by
  intro a0 _
  unfold laws_FnExactLabelName.f
  simp only [spec_LabelName_eq, impl_LabelName_eq, Option.bind_some, if_true]

end Go.Proofs.Ytllakpcmghncoaa.PureFnExactLabelName
namespace Go.Proofs.Ytllakpcmghncoaa.Pure
open Go.RowKit Go.Proofs.Ytllakpcmghncoaa.HFnExactLabelName
theorem FnExactLabelName : laws_FnExactLabelName.Pure := Go.Proofs.Ytllakpcmghncoaa.PureFnExactLabelName.law
end Go.Proofs.Ytllakpcmghncoaa.Pure
