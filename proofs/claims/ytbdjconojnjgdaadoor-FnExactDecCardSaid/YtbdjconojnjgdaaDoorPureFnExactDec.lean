/- For every whole number, the program's Dec and the reference's Dec give the same numeral. Condition: none. -/
import Derived.Test.YtbdjconojnjgdaaDoorHFnExactDecx1
import Derived.Test.YtbdjconojnjgdaaDoorM
import Derived.Test.YtbdjconojnjgdaaDoorDN
import Derived.Test.YtbdjconojnjgdaaDoorMB
import Derived.Test.YtbdjconojnjgdaaDoorTB
namespace Go.Proofs.YtbdjconojnjgdaaDoor.PureFnExactDec
open Go.RowKit Go.Proofs.YtbdjconojnjgdaaDoor.HFnExactDec Go.Proofs.YtbdjconojnjgdaaDoorW.PrintWords Go.Proofs.YtbdjconojnjgdaaDoorW.PrintLast Go.Proofs.YtbdjconojnjgdaaDoorW.PrintMore Go.Proofs.YtbdjconojnjgdaaDoor.M
set_option linter.unusedVariables false
set_option linter.unusedSimpArgs false

/-! spec_Dec -/
def digZ (u : Nat) : List Int := if u = 0 then [] else digL u
theorem digZ_step (u : Nat) (h : 0 < u) : digZ u = digZ (u / 10) ++ [48 + (u : Int) % 10] := by
  unfold digZ
  rw [if_neg (by omega)]
  by_cases c : u < 10
  · rw [if_pos (by omega), digL_lt c]
    simp only [List.nil_append]
    congr 1; omega
  · rw [if_neg (by omega), digL_ge c]
def sgnL (b : Bool) : List Int := if b = true then [45] else []
def sgnI (b : Bool) (u : Nat) : Int := if b = true then -(u : Int) else (u : Int)
theorem sgn_zero (b : Bool) : sgnI b 0 = 0 := by unfold sgnI; split <;> rfl
theorem sgn_tmod (b : Bool) (u : Nat) : Int.tmod (sgnI b u) 10 = sgnI b (u % 10) := by
  unfold sgnI
  split
  · rw [Int.neg_tmod]; rfl
  · rfl
theorem sgn_tdiv (b : Bool) (u : Nat) : Int.tdiv (sgnI b u) 10 = sgnI b (u / 10) := by
  unfold sgnI
  split
  · rw [Int.neg_tdiv]; rfl
  · rfl
theorem sgn_range (b : Bool) (u : Nat) (h : u ≤ 9223372036854775807) : -9223372036854775807 ≤ sgnI b u ∧ sgnI b u ≤ 9223372036854775807 := by
  unfold sgnI; split <;> omega
theorem byteA (c : Int) (h0 : 0 ≤ c) (h1 : c ≤ 57) : (wrap64 c) % 256 = c := by rw [w64 (by omega) (by omega)]; omega
theorem spec_Dec_l0 (b : Bool) (d : Nat) : ∀ (u : Nat) (s : ByteArray), u < 10 ^ d → s.size + d ≤ 100 → (-9223372036854775808 ≤ sgnI b u ∧ sgnI b u ≤ 9223372036854775807) → Ev (fun k => spec_Dec.l0 k (sgnI b u) s b) (strOfNums (sgnL b ++ digZ u) ++ s) := by
  have stop : ∀ s : ByteArray, s.size ≤ 100 → Ev (fun k => spec_Dec.l0 k (sgnI b 0) s b) (strOfNums (sgnL b ++ digZ 0) ++ s) := by
    intro s hs
    rw [sgn_zero]
    cases b with
    | true =>
      have c1 : 1 + s.size ≤ 9223372036854775807 := by omega
      exact Ev.step (f := fun _ => some ((⟨#[45]⟩ : ByteArray) ++ s)) (fun k => by rw [spec_Dec.l0, if_pos rfl, if_pos rfl, if_pos c1]) (Ev.now _)
    | false =>
      refine Ev.step (f := fun _ => some s) (fun k => by rw [spec_Dec.l0, if_pos rfl, if_neg (by decide)]) ?_
      refine evSome ?_
      show s = (⟨#[]⟩ : ByteArray) ++ s
      apply ba_ext; rw [toList_data, toList_data, ByteArray.data_append]; simp
  induction d with
  | zero => intro u s hu hs _; have : u = 0 := by simpa using hu
            subst this; exact stop s (by omega)
  | succ d ih =>
    intro u s hu hs hr
    by_cases h0 : u = 0
    · subst h0; exact stop s (by omega)
    · have c0 : ¬ sgnI b u = 0 := by unfold sgnI; split <;> omega
      have hdiv : -9223372036854775808 ≤ sgnI b (u / 10) ∧ sgnI b (u / 10) ≤ 9223372036854775807 := by unfold sgnI at hr ⊢; split at hr <;> split <;> omega
      have e1 : wrap64 (Int.tdiv (sgnI b u) 10) = sgnI b (u / 10) := by rw [sgn_tdiv]; exact w64 hdiv.1 hdiv.2
      have hu10 : u / 10 < 10 ^ d := by rw [Nat.pow_succ] at hu; omega
      have key : ∀ c : Int, c = 48 + (u : Int) % 10 → (strOfNums [c]).size + s.size ≤ 9223372036854775807 ∧ Ev (fun k => spec_Dec.l0 k (sgnI b (u / 10)) (strOfNums [c] ++ s) b) (strOfNums (sgnL b ++ digZ u) ++ s) := by
        intro c hc
        have hsz : (strOfNums [c]).size = 1 := by rw [strOfNums_size]; rfl
        refine ⟨by omega, ?_⟩
        have := ih (u / 10) (strOfNums [c] ++ s) hu10 (by rw [ByteArray.size_append, hsz]; omega) hdiv
        rw [digZ_step u (by omega), ← List.append_assoc, strOf_append, ← hc, ByteArray.append_assoc]
        exact this
      by_cases c1 : Int.tmod (sgnI b u) 10 < 0
      · have ec : (wrap64 (48 + (wrap64 (-(Int.tmod (sgnI b u) 10))))) % 256 = 48 + (u : Int) % 10 := by
          rw [sgn_tmod] at c1 ⊢
          have hx : -(sgnI b (u % 10)) = (u : Int) % 10 := by
            cases b with
            | true => show -(-((u % 10 : Nat) : Int)) = _; omega
            | false => exfalso; have h_ : ((u % 10 : Nat) : Int) < 0 := c1; omega
          rw [hx, w64 (n := (u : Int) % 10) (by omega) (by omega), byteA _ (by omega) (by omega)]
        obtain ⟨k1, k2⟩ := key _ ec
        refine Ev.step (fun k => by rw [spec_Dec.l0, if_neg c0, if_pos c1, Option.bind_some, if_pos k1, e1]) ?_
        rw [ec] at k2 ⊢
        exact k2
      · have ec : (wrap64 (48 + (Int.tmod (sgnI b u) 10))) % 256 = 48 + (u : Int) % 10 := by
          rw [sgn_tmod] at c1 ⊢
          have hx : sgnI b (u % 10) = (u : Int) % 10 := by
            cases b with
            | true => show -((u % 10 : Nat) : Int) = _; have h_ : ¬ -((u % 10 : Nat) : Int) < 0 := c1; omega
            | false => show ((u % 10 : Nat) : Int) = _; omega
          rw [hx, byteA _ (by omega) (by omega)]
        obtain ⟨k1, k2⟩ := key _ ec
        refine Ev.step (fun k => by rw [spec_Dec.l0, if_neg c0, if_neg c1, Option.bind_some, if_pos k1, e1]) ?_
        rw [ec] at k2 ⊢
        exact k2
theorem spec_Dec_ev (n : Int) (h0 : -9223372036854775808 ≤ n) (h1 : n ≤ 9223372036854775807) : Ev (fun k => spec_Dec.f k n) (decS n) := by
  unfold spec_Dec.f
  by_cases c : n = 0
  · subst c
    simp only [if_true]
    refine evSome ?_
    unfold decS decL
    rw [if_neg (by decide), digL_lt (by decide)]; rfl
  · simp only [if_neg c]
    have hs : sgnI (decide (n < 0)) n.natAbs = n := by
      unfold sgnI
      by_cases c2 : n < 0
      · rw [decide_eq_true c2, if_pos rfl]; omega
      · rw [decide_eq_false c2, if_neg (by decide)]; omega
    have := spec_Dec_l0 (decide (n < 0)) 20 n.natAbs ⟨#[]⟩ (by omega) (by decide) (by rw [hs]; exact ⟨h0, h1⟩)
    rw [hs] at this
    have e : strOfNums (sgnL (decide (n < 0)) ++ digZ n.natAbs) ++ (⟨#[]⟩ : ByteArray) = decS n := by
      have hz : digZ n.natAbs = digL n.natAbs := by unfold digZ; rw [if_neg (by omega)]
      have hl : sgnL (decide (n < 0)) ++ digZ n.natAbs = decL n := by
        unfold sgnL decL
        by_cases c2 : n < 0
        · rw [decide_eq_true c2, if_pos rfl, if_pos c2, hz]; rfl
        · rw [decide_eq_false c2, if_neg (by decide), if_neg c2, hz, List.nil_append, show n.natAbs = n.toNat by omega]
      rw [hl]
      apply ba_ext; rw [toList_data, toList_data, ByteArray.data_append]; simp [decS]
    rw [e] at this
    exact this

/-! impl_Dec -/
theorem impl_Dec_eq (n : Int) (h0 : -9223372036854775808 ≤ n) (h1 : n ≤ 9223372036854775807) : impl_Dec.f n = some (decS n) := by
  unfold impl_Dec.f strconv_Itoa.f
  rw [if_pos ⟨h0, h1⟩, Option.bind_some, itoa_decS]

-- imports: DN
theorem law : laws_FnExactDec.Pure := by
  intro n hn
  have hw := wf64 hn
  refine Ev.rounds ?_
  unfold laws_FnExactDec.f
  refine Ev.bind (spec_Dec_ev n hw.1 hw.2) ?_
  simp only [impl_Dec_eq n hw.1 hw.2, Option.bind_some, if_true]
  exact Ev.now _

end Go.Proofs.YtbdjconojnjgdaaDoor.PureFnExactDec
namespace Go.Proofs.YtbdjconojnjgdaaDoor.Pure
open Go.RowKit Go.Proofs.YtbdjconojnjgdaaDoor.HFnExactDec
theorem FnExactDec : laws_FnExactDec.Pure := Go.Proofs.YtbdjconojnjgdaaDoor.PureFnExactDec.law
end Go.Proofs.YtbdjconojnjgdaaDoor.Pure
