/- For every text, the program's Hex and the reference's Hex give the same text. Condition: none but the model's own bound on a text's size. -/
import Derived.Test.YtllakpcmghncoaaPFnExactHexx1
import Derived.Test.YtllakpcmghncoaaM
namespace Go.Proofs.Ytllakpcmghncoaa.PureFnExactHex
open Go.RowKit Go.Proofs.Ytllakpcmghncoaa.PFnExactHex Go.Proofs.YtllakpcmghncoaaW.PrintWords Go.Proofs.YtllakpcmghncoaaW.PrintLast Go.Proofs.YtllakpcmghncoaaW.PrintMore Go.Proofs.Ytllakpcmghncoaa.M
set_option linter.unusedVariables false
set_option linter.unusedSimpArgs false

/-! spec_l1Digit -/
theorem spec_l1Digit_eq {x : Int} (h0 : 0 ≤ x) (h1 : x < 16) : spec_l1Digit.f x = some (hexD x) := by
  unfold spec_l1Digit.f; rw [if_pos h0, if_pos h1]; rfl

/-! spec_Hex -/
theorem spec_Hex_l0 (s : ByteArray) (hs : s.size ≤ 1048576) (d : Nat) : ∀ (i : Nat) (acc : List Int), i + d = s.size → acc.length = 2 * i → Ev (fun k => spec_Hex.l0 k s acc i) (strOfNums (acc ++ hexL ((bytesOf s).drop i))) := by
  induction d with
  | zero =>
    intro i acc hi ha
    rw [drop_bytes_end s i (by omega)]
    refine Ev.step (fun k => by simp only [spec_Hex.l0]; rw [if_neg (by omega)]) ?_
    exact evSome (by simp [hexL])
  | succ d ih =>
    intro i acc hi ha
    have hb := bt_u8 s (i : Int)
    rw [drop_bytes s i (by omega)]
    refine Ev.step (fun k => by simp only [spec_Hex.l0]; rw [if_pos (by omega), if_pos (by omega)]) ?_
    have e1 : wrap64 (Int.tdiv (wrap64 (bt s i)) 16) = bt s i / 16 := by
      rw [w64 (n := bt s i) (by omega) (by omega), Int.tdiv_eq_ediv_of_nonneg (by omega), w64 (by omega) (by omega)]
    have e2 : Int.tmod (wrap64 (bt s i)) 16 = bt s i % 16 := by
      rw [w64 (n := bt s i) (by omega) (by omega), Int.tmod_eq_emod_of_nonneg (by omega)]
    have e3 : wrap64 ((i : Int) + 1) = ((i + 1 : Nat) : Int) := by rw [w64 (by omega) (by omega)]; rfl
    rw [e1, e2, e3]
    simp only [spec_l1Digit_eq (show (0 : Int) ≤ bt s i / 16 by omega) (by omega), spec_l1Digit_eq (show (0 : Int) ≤ bt s i % 16 by omega) (by omega), Option.bind_some]
    have hl : acc.length + [hexD (bt s i / 16), hexD (bt s i % 16)].length < 140737488355328 := by simp only [List.length_cons, List.length_nil]; omega
    simp only [if_pos hl]
    have := ih (i + 1) (acc ++ [hexD (bt s i / 16), hexD (bt s i % 16)]) (by omega) (by simp; omega)
    simpa only [List.append_assoc, List.cons_append, List.nil_append, hexL] using this
theorem spec_Hex_ev (s : ByteArray) (hs : s.size ≤ 1048576) : Ev (fun k => spec_Hex.f k s) (hexS s) := by
  have := spec_Hex_l0 s hs s.size 0 [] (by omega) rfl
  simpa [hexS, spec_Hex.f] using this

/-! impl_Hex -/
theorem impl_Hex_l0 (s : ByteArray) (hs : s.size ≤ 1048576) (d : Nat) : ∀ (i : Nat) (acc : List Int), i + d = s.size → acc.length = 2 * i → Ev (fun k => impl_Hex.l0 k s acc s.size i) (strOfNums (acc ++ hexL ((bytesOf s).drop i))) := by
  induction d with
  | zero =>
    intro i acc hi ha
    rw [drop_bytes_end s i (by omega)]
    refine Ev.step (fun k => by simp only [impl_Hex.l0]; rw [if_neg (by omega)]) ?_
    exact evSome (by simp [hexL])
  | succ d ih =>
    intro i acc hi ha
    have hb := bt_u8 s (i : Int)
    rw [drop_bytes s i (by omega)]
    have e2 : Go.bits .and .u8 (bt s i) 15 = bt s i % 16 := u8_and15 _ (by omega) (by omega)
    have e3 : wrap64 ((i : Int) + 1) = ((i + 1 : Nat) : Int) := by rw [w64 (by omega) (by omega)]; rfl
    have hl : ∀ a b : Int, acc.length + [a, b].length < 140737488355328 := by intro a b; simp only [List.length_cons, List.length_nil]; omega
    refine Ev.step (fun k => by simp only [impl_Hex.l0]; rw [e2, e3, if_pos (by omega), if_pos (by omega), if_pos (by omega), if_pos (by omega), if_pos (by omega), if_pos (by omega), if_pos (by omega)]) ?_
    simp only [Option.bind_some, if_pos (hl _ _)]
    have := ih (i + 1) (acc ++ [hexD (bt s i / 16), hexD (bt s i % 16)]) (by omega) (by simp; omega)
    simpa only [List.append_assoc, List.cons_append, List.nil_append, hexL, hexD] using this
theorem impl_Hex_ev (s : ByteArray) (hs : s.size ≤ 1048576) : Ev (fun k => impl_Hex.f k s) (hexS s) := by
  have := impl_Hex_l0 s hs s.size 0 [] (by omega) rfl
  simpa [hexS, impl_Hex.f] using this

theorem law : laws_FnExactHex.Pure := by
  intro a0 _
  refine Ev.rounds ?_
  unfold laws_FnExactHex.f
  by_cases h : (a0.size : Int) > 1048576
  · simp only [if_pos h]; exact Ev.now _
  · simp only [if_neg h]
    refine Ev.bind (spec_Hex_ev a0 (by omega)) (Ev.bind (impl_Hex_ev a0 (by omega)) ?_)
    simp only [if_true]
    exact Ev.now _

end Go.Proofs.Ytllakpcmghncoaa.PureFnExactHex
namespace Go.Proofs.Ytllakpcmghncoaa.Pure
theorem FnExactHex : Go.Proofs.Ytllakpcmghncoaa.PFnExactHex.laws_FnExactHex.Pure := Go.Proofs.Ytllakpcmghncoaa.PureFnExactHex.law
end Go.Proofs.Ytllakpcmghncoaa.Pure
