/- For every whole number, the program's LabelOk and the reference's LabelOk answer the same. Condition: the number is one of int's 64 bits. -/
import Derived.Test.YtllakpcmghncoaaPFnExactLabelOkx1
import Derived.Test.YtllakpcmghncoaaM
namespace Go.Proofs.Ytllakpcmghncoaa.PureFnExactLabelOk
open Go.RowKit Go.Proofs.Ytllakpcmghncoaa.PFnExactLabelOk Go.Proofs.YtllakpcmghncoaaW.PrintWords Go.Proofs.YtllakpcmghncoaaW.PrintLast Go.Proofs.YtllakpcmghncoaaW.PrintMore Go.Proofs.Ytllakpcmghncoaa.M
set_option linter.unusedVariables false
set_option linter.unusedSimpArgs false

/-! spec_l1In -/
theorem spec_l1In_eq (a b c : Int) : spec_l1In.f a b c = some (decide (b ≤ a ∧ a ≤ c)) := by
  unfold spec_l1In.f
  by_cases h : b ≤ a
  · rw [if_pos h]; simp [h]
  · rw [if_neg h]; simp [h]

/-! impl_within -/
theorem impl_within_eq (a b c : Int) : impl_within.f a b c = some (decide (b ≤ a ∧ a ≤ c)) := by
  unfold impl_within.f
  by_cases h : b ≤ a
  · rw [if_pos h]; simp [h]
  · rw [if_neg h]; simp [h]

theorem law : laws_FnExactLabelOk.Pure := by
  intro a0 _
  unfold laws_FnExactLabelOk.f spec_LabelOk.f impl_LabelOk.f
  simp only [spec_l1In_eq, impl_within_eq, Option.bind_some]
  simp

end Go.Proofs.Ytllakpcmghncoaa.PureFnExactLabelOk
namespace Go.Proofs.Ytllakpcmghncoaa.Pure
theorem FnExactLabelOk : Go.Proofs.Ytllakpcmghncoaa.PFnExactLabelOk.laws_FnExactLabelOk.Pure := Go.Proofs.Ytllakpcmghncoaa.PureFnExactLabelOk.law
end Go.Proofs.Ytllakpcmghncoaa.Pure
