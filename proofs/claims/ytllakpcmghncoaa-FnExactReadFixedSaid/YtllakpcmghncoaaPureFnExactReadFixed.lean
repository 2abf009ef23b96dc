/- For every text and width, the program's ReadFixed and the reference's ReadFixed give the same number and the same word. Condition: none but the model's own bounds on a text's size and a number's width. -/
import Derived.Test.YtllakpcmghncoaaPFnExactReadFixedx1
import Derived.Test.YtllakpcmghncoaaM
namespace Go.Proofs.Ytllakpcmghncoaa.PureFnExactReadFixed
open Go.RowKit Go.Proofs.Ytllakpcmghncoaa.PFnExactReadFixed Go.Proofs.YtllakpcmghncoaaW.PrintWords Go.Proofs.YtllakpcmghncoaaW.PrintLast Go.Proofs.YtllakpcmghncoaaW.PrintMore Go.Proofs.Ytllakpcmghncoaa.M
set_option linter.unusedVariables false
set_option linter.unusedSimpArgs false

/-! spec_l1In -/
theorem spec_l1In_eq (a b c : Int) : spec_l1In.f a b c = some (decide (b ≤ a ∧ a ≤ c)) := by
  unfold spec_l1In.f
  by_cases h : b ≤ a
  · rw [if_pos h]; simp [h]
  · rw [if_neg h]; simp [h]

/-! spec_ReadFixed -/
theorem spec_ReadFixed_l0 (s : ByteArray) (w : Nat) (hw : w ≤ 7) (hs : w ≤ s.size) (d : Nat) : ∀ (i : Nat) (n : Int), i + d = w → 0 ≤ n → n < 256 ^ i → Ev (fun k => spec_ReadFixed.l0 k s w n i) (valB s d i n, true) := by
  induction d with
  | zero =>
    intro i n hi h0 h1
    exact Ev.step (f := fun _ => some (n, true)) (fun k => by simp only [spec_ReadFixed.l0]; rw [if_neg (by omega)]) (Ev.now _)
  | succ d ih =>
    intro i n hi h0 h1
    have hb := bt_u8 s (i : Int)
    have hp := p256 i (by omega)
    have c1 : (i : Int) < (w : Int) := by omega
    have c2 : (0 : Int) ≤ (i : Int) := by omega
    have c3 : (i : Int) < (s.size : Int) := by omega
    have c4 : n * 256 + bt s i < 256 ^ (i + 1) := by rw [Int.pow_succ]; omega
    have c5 : n < 281474976710656 := by omega
    clear h1 hp
    have e1 : wrap64 (n * 256) = n * 256 := w64 (by omega) (by omega)
    have e2 : wrap64 (bt s i) = bt s i := w64 (by omega) (by omega)
    have e3 : wrap64 (n * 256 + bt s i) = n * 256 + bt s i := by exact w64 (by omega) (by omega)
    have e4 : wrap64 ((i : Int) + 1) = ((i + 1 : Nat) : Int) := by rw [w64 (by omega) (by omega)]; rfl
    refine Ev.step (fun k => by simp only [spec_ReadFixed.l0]; rw [if_pos c1, if_pos c2, if_pos c3, e1, e2, e3, e4]) ?_
    exact ih (i + 1) (n * 256 + bt s i) (by omega) (by omega) c4
theorem spec_ReadFixed_ev (s : ByteArray) (w : Int) : Ev (fun k => spec_ReadFixed.f k s w) (readFixed s w) := by
  unfold spec_ReadFixed.f readFixed
  simp only [spec_l1In_eq, Option.bind_some, decide_eq_true_eq]
  by_cases h : 1 ≤ w ∧ w ≤ 7
  · obtain ⟨m, rfl⟩ := Int.eq_ofNat_of_zero_le (show 0 ≤ w by omega)
    simp only [if_pos h]
    refine Ev.step (fun k => by rw [spec_ReadFixed.j0]) ?_
    by_cases hn : (s.size : Int) < (m : Int)
    · simp only [decide_eq_true hn, if_true]
      rw [if_neg (by omega)]; exact Ev.now _
    · simp only [decide_eq_false hn, Bool.false_eq_true, if_false]
      rw [if_pos ⟨h, by omega⟩]
      exact spec_ReadFixed_l0 s m (by omega) (by omega) m 0 0 (by omega) (by omega) (by simp)
  · simp only [if_neg h]
    refine Ev.step (fun k => by rw [spec_ReadFixed.j0]) ?_
    simp only [if_true]
    rw [if_neg (by simp [h])]; exact Ev.now _

/-! impl_within -/
theorem impl_within_eq (a b c : Int) : impl_within.f a b c = some (decide (b ≤ a ∧ a ≤ c)) := by
  unfold impl_within.f
  by_cases h : b ≤ a
  · rw [if_pos h]; simp [h]
  · rw [if_neg h]; simp [h]

/-! impl_ReadFixed -/
theorem impl_ReadFixed_l0 (s : ByteArray) (w : Nat) (hw : w ≤ 7) (hs : w ≤ s.size) (d : Nat) : ∀ (i : Nat) (n : Int), i + d = w → 0 ≤ n → n < 256 ^ i → Ev (fun k => impl_ReadFixed.l0 k s n w i) (valB s d i n, true) := by
  induction d with
  | zero =>
    intro i n hi h0 h1
    exact Ev.step (f := fun _ => some (n, true)) (fun k => by simp only [impl_ReadFixed.l0]; rw [if_neg (by omega)]) (Ev.now _)
  | succ d ih =>
    intro i n hi h0 h1
    have hb := bt_u8 s (i : Int)
    have hp := p256 i (by omega)
    have c1 : (i : Int) < (w : Int) := by omega
    have c2 : (0 : Int) ≤ (i : Int) := by omega
    have c3 : (i : Int) < (s.size : Int) := by omega
    have c4 : n * 256 + bt s i < 256 ^ (i + 1) := by rw [Int.pow_succ]; omega
    have c5 : n < 281474976710656 := by omega
    clear h1 hp
    have e1 : wrap64 (n * 256) = n * 256 := w64 (by omega) (by omega)
    have e2 : wrap64 (bt s i) = bt s i := w64 (by omega) (by omega)
    have e3 : Go.bits .or .i64 (n * 256) (bt s i) = n * 256 + bt s i := by exact or_high 8 (by omega) (by omega) (by omega) (by omega) (by omega) (by omega)
    have e4 : wrap64 ((i : Int) + 1) = ((i + 1 : Nat) : Int) := by rw [w64 (by omega) (by omega)]; rfl
    refine Ev.step (fun k => by simp only [impl_ReadFixed.l0]; rw [if_pos c1, if_pos c2, if_pos c3, e1, e2, e3, e4]) ?_
    exact ih (i + 1) (n * 256 + bt s i) (by omega) (by omega) c4
theorem impl_ReadFixed_ev (s : ByteArray) (w : Int) : Ev (fun k => impl_ReadFixed.f k s w) (readFixed s w) := by
  unfold impl_ReadFixed.f readFixed
  simp only [impl_within_eq, Option.bind_some, decide_eq_true_eq]
  by_cases h : 1 ≤ w ∧ w ≤ 7
  · obtain ⟨m, rfl⟩ := Int.eq_ofNat_of_zero_le (show 0 ≤ w by omega)
    simp only [if_pos h]
    refine Ev.step (fun k => by rw [impl_ReadFixed.j0]) ?_
    by_cases hn : (s.size : Int) < (m : Int)
    · simp only [decide_eq_true hn, if_true]
      rw [if_neg (by omega)]; exact Ev.now _
    · simp only [decide_eq_false hn, Bool.false_eq_true, if_false]
      rw [if_pos ⟨h, by omega⟩]
      exact impl_ReadFixed_l0 s m (by omega) (by omega) m 0 0 (by omega) (by omega) (by simp)
  · simp only [if_neg h]
    refine Ev.step (fun k => by rw [impl_ReadFixed.j0]) ?_
    simp only [if_true]
    rw [if_neg (by simp [h])]; exact Ev.now _

theorem law : laws_FnExactReadFixed.Pure := by
  intro a0 a1 _ _
  refine Ev.rounds ?_
  unfold laws_FnExactReadFixed.f
  by_cases h : (a0.size : Int) > 1048576
  · simp only [if_pos h]; exact Ev.now _
  · simp only [if_neg h]
    refine Ev.bind (spec_ReadFixed_ev a0 a1) (Ev.bind (impl_ReadFixed_ev a0 a1) ?_)
    simp only [if_true, bne_self_eq_false, Bool.false_eq_true, if_false]
    exact Ev.now _

end Go.Proofs.Ytllakpcmghncoaa.PureFnExactReadFixed
namespace Go.Proofs.Ytllakpcmghncoaa.Pure
theorem FnExactReadFixed : Go.Proofs.Ytllakpcmghncoaa.PFnExactReadFixed.laws_FnExactReadFixed.Pure := Go.Proofs.Ytllakpcmghncoaa.PureFnExactReadFixed.law
end Go.Proofs.Ytllakpcmghncoaa.Pure
