/- For every whole number, the program's TreeCode and the reference's TreeCode give the same text. Condition: the number is one of int's 64 bits. -/
import Derived.Test.YtllakpcmghncoaaHFnExactTreeCodex1
import Derived.Test.YtllakpcmghncoaaM
namespace Go.Proofs.Ytllakpcmghncoaa.PureFnExactTreeCode
open Go.RowKit Go.Proofs.Ytllakpcmghncoaa.HFnExactTreeCode Go.Proofs.YtllakpcmghncoaaW.PrintWords Go.Proofs.YtllakpcmghncoaaW.PrintLast Go.Proofs.YtllakpcmghncoaaW.PrintMore Go.Proofs.Ytllakpcmghncoaa.M
set_option linter.unusedVariables false
set_option linter.unusedSimpArgs false

/-! spec_l1In -/
theorem spec_l1In_eq (a b c : Int) : spec_l1In.f a b c = some (decide (b ≤ a ∧ a ≤ c)) := by
  unfold spec_l1In.f
  by_cases h : b ≤ a
  · rw [if_pos h]; simp [h]
  · rw [if_neg h]; simp [h]

theorem spec_TreeCode_eq (a : Int) : spec_TreeCode.f a = impl_TreeCode.f a := by
  unfold spec_TreeCode.f
  simp only [spec_l1In_eq, Option.bind_some, decide_eq_true_eq]
  by_cases h : 0 ≤ a ∧ a ≤ 6
  · rw [if_pos h, if_pos h.1]
    obtain ⟨n, rfl⟩ := Int.eq_ofNat_of_zero_le h.1
    have hn : n < 7 := by omega
    match n, hn with
    | 0, _ | 1, _ | 2, _ | 3, _ | 4, _ | 5, _ | 6, _ => rfl
  · rw [if_neg h]
    unfold impl_TreeCode.f
    rw [if_neg (by omega), if_neg (by omega), if_neg (by omega), if_neg (by omega), if_neg (by omega), if_neg (by omega), if_neg (by omega)]
theorem law : laws_FnExactTreeCode.Pure := by
  intro a0 _
  unfold laws_FnExactTreeCode.f
  rw [spec_TreeCode_eq]
  unfold impl_TreeCode.f
  simp only [Option.bind_some, if_true]

end Go.Proofs.Ytllakpcmghncoaa.PureFnExactTreeCode
namespace Go.Proofs.Ytllakpcmghncoaa.Pure
open Go.RowKit Go.Proofs.Ytllakpcmghncoaa.HFnExactTreeCode
theorem FnExactTreeCode : laws_FnExactTreeCode.Pure := Go.Proofs.Ytllakpcmghncoaa.PureFnExactTreeCode.law
end Go.Proofs.Ytllakpcmghncoaa.Pure
