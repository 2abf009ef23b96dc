/- For every two whole numbers, the program's Fixed and the reference's Fixed give the same bytes. Condition: the numbers are ones of int's 64 bits. -/
import Derived.Test.YtllakpcmghncoaaPFnExactFixedx1
import Derived.Test.YtllakpcmghncoaaM
namespace Go.Proofs.Ytllakpcmghncoaa.PureFnExactFixed
open Go.RowKit Go.Proofs.Ytllakpcmghncoaa.PFnExactFixed Go.Proofs.YtllakpcmghncoaaW.PrintWords Go.Proofs.YtllakpcmghncoaaW.PrintLast Go.Proofs.YtllakpcmghncoaaW.PrintMore Go.Proofs.Ytllakpcmghncoaa.M
set_option linter.unusedVariables false
set_option linter.unusedSimpArgs false

/-! spec_l1In -/
theorem spec_l1In_eq (a b c : Int) : spec_l1In.f a b c = some (decide (b ≤ a ∧ a ≤ c)) := by
  unfold spec_l1In.f
  by_cases h : b ≤ a
  · rw [if_pos h]; simp [h]
  · rw [if_neg h]; simp [h]

/-! spec_Fixed -/
theorem spec_Fixed_l0 (w : Nat) (hw : w ≤ 7) (d : Nat) : ∀ (i n : Nat) (acc : List Int), i + d = w → n ≤ 9223372036854775807 → acc.length = i → Ev (fun k => spec_Fixed.l0 k n w (strOfNums acc) i) (if n / 256 ^ d = 0 then strOfNums (fixB d n ++ acc) else ⟨#[]⟩) := by
  induction d with
  | zero =>
    intro i n acc hi hn ha
    refine Ev.step (fun k => by simp only [spec_Fixed.l0]; rw [if_neg (by omega)]) ?_
    simp only [Nat.pow_zero, Nat.div_one, fixB, List.nil_append]
    by_cases h : n = 0
    · simp only [if_pos h, if_neg (show ¬ (n : Int) > 0 by omega)]; exact Ev.now _
    · rw [if_neg h]; simp only [if_pos (show (n : Int) > 0 by omega)]; exact Ev.now _
  | succ d ih =>
    intro i n acc hi hn ha
    refine Ev.step (fun k => by simp only [spec_Fixed.l0]; rw [if_pos (by omega)]) ?_
    simp only [Option.bind_some]
    have e1 : Int.tmod (n : Int) 256 % 256 = (n : Int) % 256 := by rw [Int.tmod_eq_emod_of_nonneg (by omega)]; omega
    have e2 : wrap64 (Int.tdiv (n : Int) 256) = ((n / 256 : Nat) : Int) := by
      rw [Int.tdiv_eq_ediv_of_nonneg (by omega), w64 (by omega) (by omega)]; rfl
    have e3 : wrap64 ((i : Int) + 1) = ((i + 1 : Nat) : Int) := by rw [w64 (by omega) (by omega)]; rfl
    have hs : (strOfNums [Int.tmod (n : Int) 256 % 256]).size + (strOfNums acc).size ≤ 9223372036854775807 := by
      rw [strOfNums_size, strOfNums_size]; simp only [List.length_cons, List.length_nil]; omega
    simp only [if_pos hs]
    simp only [e1, e2, e3, ← strOf_append]
    have := ih (i + 1) (n / 256) ([(n : Int) % 256] ++ acc) (by omega) (by omega) (by simp; omega)
    rw [Nat.pow_succ, Nat.mul_comm, ← Nat.div_div_eq_div_mul]
    simpa only [fixB, List.append_assoc] using this
theorem spec_Fixed_ev (n w : Int) (h0 : -9223372036854775808 ≤ n) (h1 : n ≤ 9223372036854775807) : Ev (fun k => spec_Fixed.f k n w) (fixedS n w) := by
  unfold spec_Fixed.f fixedS
  simp only [spec_l1In_eq, Option.bind_some, decide_eq_true_eq]
  by_cases h : 1 ≤ w ∧ w ≤ 7
  · obtain ⟨m, rfl⟩ := Int.eq_ofNat_of_zero_le (show 0 ≤ w by omega)
    simp only [if_pos h]
    refine Ev.step (fun k => by rw [spec_Fixed.j0]) ?_
    by_cases hn : n < 0
    · simp only [hn, decide_true, if_true]
      rw [if_neg (by omega)]; exact Ev.now _
    · obtain ⟨q, rfl⟩ := Int.eq_ofNat_of_zero_le (show 0 ≤ n by omega)
      have := spec_Fixed_l0 m (by omega) m 0 q [] (by omega) (by omega) rfl
      simp only [decide_eq_false hn, Bool.false_eq_true, if_false]
      simp only [List.append_nil, strOf_nil, Int.natCast_zero] at this
      simp only [Int.toNat_natCast, h, true_and, Int.natCast_nonneg]
      simpa using this
  · simp only [if_neg h]
    refine Ev.step (fun k => by rw [spec_Fixed.j0]) ?_
    simp only [if_true]
    rw [if_neg (by simp [h])]; exact Ev.now _

/-! impl_within -/
theorem impl_within_eq (a b c : Int) : impl_within.f a b c = some (decide (b ≤ a ∧ a ≤ c)) := by
  unfold impl_within.f
  by_cases h : b ≤ a
  · rw [if_pos h]; simp [h]
  · rw [if_neg h]; simp [h]

/-! impl_Fixed -/
theorem set_mid (i : Nat) (v : Int) (acc : List Int) : (List.replicate (i + 1) (0 : Int) ++ acc).set i v = List.replicate i 0 ++ (v :: acc) := by
  rw [List.replicate_succ', List.append_assoc, List.set_append_right _ _ (by simp)]
  simp
theorem impl_Fixed_l0 (w : Nat) (hw : w ≤ 7) (i : Nat) : ∀ (n : Nat) (acc : List Int), i + acc.length = w → n ≤ 9223372036854775807 → Ev (fun k => impl_Fixed.l0 k n (List.replicate i 0 ++ acc) ((i : Int) - 1)) (strOfNums (fixB i n ++ acc)) := by
  induction i with
  | zero =>
    intro n acc hi hn
    refine Ev.step (fun k => by simp only [impl_Fixed.l0]; rw [if_neg (by omega)]) ?_
    simp only [List.replicate_zero, List.nil_append, fixB]; exact Ev.now _
  | succ i ih =>
    intro n acc hi hn
    have e0 : ((i + 1 : Nat) : Int) - 1 = (i : Int) := by omega
    have e1 : wrap64 ((i : Int) - 1) = (i : Int) - 1 := w64 (by omega) (by omega)
    have hl : (i : Int) < ((List.replicate (i + 1) (0 : Int) ++ acc).length : Int) := by simp; omega
    rw [e0]
    refine Ev.step (fun k => by simp only [impl_Fixed.l0]; rw [if_pos (by omega), if_pos (by omega), if_pos hl]) ?_
    simp only [Int.toNat_natCast, set_mid, e1]
    have := ih (n / 256) ((n : Int) % 256 :: acc) (by simp; omega) (by omega)
    have e2 : (n : Int) / 256 = ((n / 256 : Nat) : Int) := by omega
    rw [e2]
    simpa only [fixB, List.append_assoc, List.cons_append, List.nil_append] using this
theorem impl_Fixed_ev (n w : Int) (h0 : -9223372036854775808 ≤ n) (h1 : n ≤ 9223372036854775807) : Ev (fun k => impl_Fixed.f k n w) (fixedS n w) := by
  unfold impl_Fixed.f fixedS
  simp only [impl_within_eq, Option.bind_some, decide_eq_true_eq]
  by_cases h : 1 ≤ w ∧ w ≤ 7
  · obtain ⟨m, rfl⟩ := Int.eq_ofNat_of_zero_le (show 0 ≤ w by omega)
    simp only [if_pos h]
    by_cases hn : n < 0
    · simp only [if_pos hn]
      refine Ev.step (fun k => by rw [impl_Fixed.j0]) ?_
      simp only [if_true]
      rw [if_neg (by omega)]; exact Ev.now _
    · obtain ⟨q, rfl⟩ := Int.eq_ofNat_of_zero_le (show 0 ≤ n by omega)
      have e0 : wrap64 (8 * (m : Int)) = ((8 * m : Nat) : Int) := by rw [w64 (by omega) (by omega)]; omega
      have e1 : shr .i64 (q : Int) ((8 * m : Nat) : Int) = ((q / 256 ^ m : Nat) : Int) := by
        unfold shr
        have : min ((8 * m : Nat) : Int).toNat IntKind.i64.bits = 8 * m := by
          rw [Int.toNat_natCast]; exact Nat.min_eq_left (by simp only [IntKind.bits]; omega)
        have h2 : (2 : Int) ^ (8 * m) = ((256 ^ m : Nat) : Int) := by
          rw [show (256 : Nat) ^ m = 2 ^ (8 * m) by rw [Nat.pow_mul]]; simp
        rw [this, h2]; rfl
      have e2 : wrap64 ((m : Int) - 1) = (m : Int) - 1 := w64 (by omega) (by omega)
      simp only [if_neg hn, e1, e0, if_pos (show (0 : Int) ≤ ((8 * m : Nat) : Int) by omega)]
      refine Ev.step (fun k => by rw [impl_Fixed.j0]) ?_
      simp only [Int.toNat_natCast, h, true_and, Int.natCast_nonneg]
      by_cases hz : q / 256 ^ m = 0
      · have hb : (((q / 256 ^ m : Nat) : Int) != 0) = false := by rw [hz]; rfl
        simp only [hb, Bool.false_eq_true, if_false]
        simp only [Int.natCast_nonneg, if_true, if_pos hz, if_pos (show m ≤ 281474976710656 by omega), e2]
        have := impl_Fixed_l0 m (by omega) m q [] (by simp) (by omega)
        simpa using this
      · have hb : (((q / 256 ^ m : Nat) : Int) != 0) = true := by rw [bne_iff_ne]; omega
        simp only [hb, if_true, if_neg hz]; exact Ev.now _
  · simp only [if_neg h]
    refine Ev.step (fun k => by rw [impl_Fixed.j0]) ?_
    simp only [if_true]
    rw [if_neg (by simp [h])]; exact Ev.now _

theorem law : laws_FnExactFixed.Pure := by
  intro a0 a1 h _
  have h := wf64 h
  refine Ev.rounds ?_
  unfold laws_FnExactFixed.f
  refine Ev.bind (spec_Fixed_ev a0 a1 h.1 h.2) (Ev.bind (impl_Fixed_ev a0 a1 h.1 h.2) ?_)
  simp only [if_true]
  exact Ev.now _

end Go.Proofs.Ytllakpcmghncoaa.PureFnExactFixed
namespace Go.Proofs.Ytllakpcmghncoaa.Pure
theorem FnExactFixed : Go.Proofs.Ytllakpcmghncoaa.PFnExactFixed.laws_FnExactFixed.Pure := Go.Proofs.Ytllakpcmghncoaa.PureFnExactFixed.law
end Go.Proofs.Ytllakpcmghncoaa.Pure
