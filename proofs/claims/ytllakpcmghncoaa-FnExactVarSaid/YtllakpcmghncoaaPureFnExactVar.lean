/- For every whole number, the program's Var and the reference's Var give the same bytes. Condition: the number is one of int's 64 bits. -/
import Derived.Test.YtllakpcmghncoaaPFnExactVarx1
import Derived.Test.YtllakpcmghncoaaM
namespace Go.Proofs.Ytllakpcmghncoaa.PureFnExactVar
open Go.RowKit Go.Proofs.Ytllakpcmghncoaa.PFnExactVar Go.Proofs.YtllakpcmghncoaaW.PrintWords Go.Proofs.YtllakpcmghncoaaW.PrintLast Go.Proofs.YtllakpcmghncoaaW.PrintMore Go.Proofs.Ytllakpcmghncoaa.M
set_option linter.unusedVariables false
set_option linter.unusedSimpArgs false

/-! spec_l1In -/
theorem spec_l1In_eq (a b c : Int) : spec_l1In.f a b c = some (decide (b ≤ a ∧ a ≤ c)) := by
  unfold spec_l1In.f
  by_cases h : b ≤ a
  · rw [if_pos h]; simp [h]
  · rw [if_neg h]; simp [h]

/-! spec_Var -/
theorem spec_Var_l0 : ∀ (n : Nat) (acc : List Int), n < 9223372036854775808 → acc.length + (varB n).length ≤ 140737488355328 → Ev (fun k => spec_Var.l0 k n acc) (strOfNums (acc ++ varB n)) := by
  intro n
  induction n using Nat.strongRecOn with
  | _ n ih =>
    intro acc hn hl
    by_cases h : n < 128
    · rw [varB_lt h] at hl ⊢
      simp only [List.length_cons, List.length_nil] at hl
      refine Ev.step (fun k => by simp only [spec_Var.l0]; rw [if_neg (by omega), if_pos (by omega)]) ?_
      refine evSome ?_
      rw [Int.emod_eq_of_lt (by omega) (by omega)]
    · rw [varB_ge h] at hl ⊢
      simp only [List.length_cons] at hl
      refine Ev.step (fun k => by simp only [spec_Var.l0]; rw [if_pos (by omega), if_pos (by omega)]) ?_
      have e1 : wrap64 (Int.tdiv (n : Int) 128) = ((n / 128 : Nat) : Int) := by
        rw [Int.tdiv_eq_ediv_of_nonneg (by omega), w64 (by omega) (by omega)]; rfl
      have e2 : (wrap64 (128 + Int.tmod (n : Int) 128)) % 256 = 128 + (n : Int) % 128 := by
        rw [Int.tmod_eq_emod_of_nonneg (by omega), w64 (by omega) (by omega)]; omega
      rw [e1, e2]
      have := ih (n / 128) (by omega) (acc ++ [128 + (n : Int) % 128]) (by omega) (by simp only [List.length_append, List.length_cons, List.length_nil]; omega)
      simpa only [List.append_assoc, List.cons_append, List.nil_append] using this
theorem spec_Var_ev (n : Int) : Ev (fun k => spec_Var.f k n) (varS n) := by
  unfold spec_Var.f varS
  simp only [spec_l1In_eq, Option.bind_some, decide_eq_true_eq]
  by_cases h : 0 ≤ n ∧ n ≤ 562949953421311
  · rw [if_pos h]
    simp only [if_pos h]
    obtain ⟨m, rfl⟩ := Int.eq_ofNat_of_zero_le h.1
    have hl := varB_len 7 m (by omega)
    have := spec_Var_l0 m [] (by omega) (by simp; omega)
    simpa only [List.nil_append, Int.toNat_natCast] using this
  · rw [if_neg h]
    simp only [if_neg h]
    exact Ev.now _

/-! impl_within -/
theorem impl_within_eq (a b c : Int) : impl_within.f a b c = some (decide (b ≤ a ∧ a ≤ c)) := by
  unfold impl_within.f
  by_cases h : b ≤ a
  · rw [if_pos h]; simp [h]
  · rw [if_neg h]; simp [h]

/-! impl_Var -/
theorem impl_Var_l0 : ∀ (n : Nat) (acc : List Int), n < 9223372036854775808 → acc.length + (varB n).length ≤ 140737488355328 → Ev (fun k => impl_Var.l0 k n acc) (strOfNums (acc ++ varB n)) := by
  intro n
  induction n using Nat.strongRecOn with
  | _ n ih =>
    intro acc hn hl
    by_cases h : n < 128
    · rw [varB_lt h] at hl ⊢
      simp only [List.length_cons, List.length_nil] at hl
      refine Ev.step (fun k => by simp only [impl_Var.l0]; rw [if_neg (by omega), if_pos (by omega)]) ?_
      refine evSome ?_
      rw [Int.emod_eq_of_lt (by omega) (by omega)]
    · rw [varB_ge h] at hl ⊢
      simp only [List.length_cons] at hl
      refine Ev.step (fun k => by simp only [impl_Var.l0]; rw [if_pos (by omega), if_pos (by omega)]) ?_
      have e1 : (n : Int) / 128 = ((n / 128 : Nat) : Int) := by omega
      have e2 : Go.bits .or .u8 ((Go.bits .and .i64 (n : Int) 127) % 256) 128 = 128 + (n : Int) % 128 := by
        rw [and127_i64 (by omega) (by omega), Int.emod_eq_of_lt (a := (n : Int) % 128) (by omega) (by omega), or128_u8 (by omega) (by omega)]
      rw [e1, e2]
      have := ih (n / 128) (by omega) (acc ++ [128 + (n : Int) % 128]) (by omega) (by simp only [List.length_append, List.length_cons, List.length_nil]; omega)
      simpa only [List.append_assoc, List.cons_append, List.nil_append] using this
theorem impl_Var_ev (n : Int) : Ev (fun k => impl_Var.f k n) (varS n) := by
  unfold impl_Var.f varS
  simp only [impl_within_eq, Option.bind_some, decide_eq_true_eq]
  by_cases h : 0 ≤ n ∧ n ≤ 562949953421311
  · rw [if_pos h]
    simp only [if_pos h]
    obtain ⟨m, rfl⟩ := Int.eq_ofNat_of_zero_le h.1
    have hl := varB_len 7 m (by omega)
    have := impl_Var_l0 m [] (by omega) (by simp; omega)
    simpa only [List.nil_append, Int.toNat_natCast] using this
  · rw [if_neg h]
    simp only [if_neg h]
    exact Ev.now _

theorem law : laws_FnExactVar.Pure := by
  intro a0 _
  refine Ev.rounds ?_
  unfold laws_FnExactVar.f
  refine Ev.bind (spec_Var_ev a0) (Ev.bind (impl_Var_ev a0) ?_)
  simp only [if_true]
  exact Ev.now _

end Go.Proofs.Ytllakpcmghncoaa.PureFnExactVar
namespace Go.Proofs.Ytllakpcmghncoaa.Pure
theorem FnExactVar : Go.Proofs.Ytllakpcmghncoaa.PFnExactVar.laws_FnExactVar.Pure := Go.Proofs.Ytllakpcmghncoaa.PureFnExactVar.law
end Go.Proofs.Ytllakpcmghncoaa.Pure
