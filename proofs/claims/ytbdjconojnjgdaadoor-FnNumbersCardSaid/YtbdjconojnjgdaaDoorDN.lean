/- Plain facts about decimal numerals: the digits of a number, and what digits are worth. Conditions: those that each lemma names. -/
import Derived.Test.YtbdjconojnjgdaaDoorM
import Derived.Test.YtbdjconojnjgdaaDoorMB
import Derived.Lib.ItoaNum
namespace Go.Proofs.YtbdjconojnjgdaaDoor.M
open Go.RowKit Go.Proofs.YtbdjconojnjgdaaDoorW.PrintWords Go.Proofs.YtbdjconojnjgdaaDoorW.PrintMore
set_option linter.unusedVariables false
set_option linter.unusedSimpArgs false

def digL (u : Nat) : List Int := if u < 10 then [48 + (u : Int)] else digL (u / 10) ++ [48 + (u : Int) % 10]
termination_by u
decreasing_by omega
theorem digL_lt {u : Nat} (h : u < 10) : digL u = [48 + (u : Int)] := by rw [digL, if_pos h]
theorem digL_ge {u : Nat} (h : ¬ u < 10) : digL u = digL (u / 10) ++ [48 + (u : Int) % 10] := by rw [digL, if_neg h]
theorem digL_range (u : Nat) : ∀ x ∈ digL u, 48 ≤ x ∧ x ≤ 57 := by
  induction u using Nat.strongRecOn with
  | _ u ih =>
    by_cases h : u < 10
    · rw [digL_lt h]; intro x hx; simp only [List.mem_singleton] at hx; omega
    · rw [digL_ge h]
      intro x hx
      simp only [List.mem_append, List.mem_singleton] at hx
      rcases hx with hx | rfl
      · exact ih (u / 10) (by omega) x hx
      · omega
theorem digL_pos (u : Nat) : 0 < (digL u).length := by
  by_cases h : u < 10
  · rw [digL_lt h]; simp
  · rw [digL_ge h]; simp
theorem digL_len (j : Nat) : ∀ u : Nat, u < 10 ^ (j + 1) → (digL u).length ≤ j + 1 := by
  induction j with
  | zero => intro u h; rw [digL_lt (by simpa using h)]; simp
  | succ j ih =>
    intro u h
    by_cases h1 : u < 10
    · rw [digL_lt h1]; simp
    · rw [digL_ge h1]
      have := ih (u / 10) (by rw [Nat.pow_succ] at h; omega)
      simp only [List.length_append, List.length_singleton]; omega
/-- What digits are worth, behind a number. -/
def valL : List Int → Int → Int
  | [], a => a
  | c :: t, a => valL t (a * 10 + (c - 48))
theorem valL_app : ∀ (l m : List Int) (a : Int), valL (l ++ m) a = valL m (valL l a)
  | [], m, a => rfl
  | c :: l, m, a => by simp only [List.cons_append, valL, valL_app l m]
theorem valL_digL (u : Nat) : valL (digL u) 0 = u := by
  induction u using Nat.strongRecOn with
  | _ u ih =>
    by_cases h : u < 10
    · rw [digL_lt h]; simp only [valL]; omega
    · rw [digL_ge h, valL_app, ih (u / 10) (by omega)]
      simp only [valL]; omega
theorem valL_bound : ∀ (l : List Int) (a : Int), (∀ x ∈ l, 48 ≤ x ∧ x ≤ 57) → 0 ≤ a → 0 ≤ valL l a ∧ valL l a < (a + 1) * 10 ^ l.length
  | [], a, _, ha => by simp [valL]; omega
  | c :: l, a, h, ha => by
    have hc := h c (by simp)
    have := valL_bound l (a * 10 + (c - 48)) (fun x hx => h x (by simp [hx])) (by omega)
    simp only [valL, List.length_cons, Int.pow_succ]
    refine ⟨this.1, Int.lt_of_lt_of_le this.2 ?_⟩
    have hp : (0 : Int) < 10 ^ l.length := Int.pow_pos (by decide)
    have h2 : (a * 10 + (c - 48) + 1) * 10 ^ l.length ≤ ((a + 1) * 10) * 10 ^ l.length := Int.mul_le_mul_of_nonneg_right (by omega) (by omega)
    rw [show (a + 1) * (10 ^ l.length * 10) = ((a + 1) * 10) * 10 ^ l.length by rw [Int.mul_assoc, Int.mul_comm 10]]
    exact h2
theorem valL_small (l : List Int) (h : ∀ x ∈ l, 48 ≤ x ∧ x ≤ 57) (hl : l.length ≤ 9) : 0 ≤ valL l 0 ∧ valL l 0 < 1000000000 := by
  have h0 := valL_bound l 0 h (by omega)
  have h1 : (10 : Nat) ^ l.length ≤ 10 ^ 9 := Nat.pow_le_pow_right (by decide) hl
  have h2 : ((10 ^ l.length : Nat) : Int) ≤ ((10 ^ 9 : Nat) : Int) := by omega
  have h3 : (10 : Int) ^ l.length ≤ 1000000000 := by simpa using h2
  rw [Int.zero_add, Int.one_mul] at h0
  omega
/-- A number's decimal numeral. -/
def decL (n : Int) : List Int := if n < 0 then 45 :: digL n.natAbs else digL n.toNat
def decS (n : Int) : ByteArray := strOfNums (decL n)
theorem decL_range (n : Int) : ∀ x ∈ decL n, 0 ≤ x ∧ x ≤ 255 := by
  intro x hx
  unfold decL at hx
  by_cases h : n < 0
  · rw [if_pos h, List.mem_cons] at hx
    rcases hx with rfl | hx
    · omega
    · have := digL_range _ x hx; omega
  · rw [if_neg h] at hx; have := digL_range _ x hx; omega
theorem bytes_decS (n : Int) : bytesOf (decS n) = decL n := bytesOf_strOf (decL_range n)
theorem lib_dig (u : Nat) : (Lib.decDigits u).map (fun b => (b.toNat : Int)) = digL u := by
  induction u using Nat.strongRecOn with
  | _ u ih =>
    rw [Lib.decDigits]
    by_cases h : u < 10
    · rw [dif_pos h, digL_lt h]
      simp; omega
    · rw [dif_neg h, digL_ge h, List.map_append, ih (u / 10) (by omega)]
      simp; omega
theorem itoa_decS (n : Int) : (⟨(Lib.itoa n).toArray⟩ : ByteArray) = decS n := by
  apply bytesOf_inj
  rw [bytes_decS]
  unfold bytesOf Lib.itoa decL
  by_cases h : n < 0
  · rw [if_pos h, if_pos h]; simp only [List.map_cons]; rw [lib_dig]; rfl
  · rw [if_neg h, if_neg h]; exact lib_dig _
/-- The sign and the digits apart. -/
def signI (L : List Int) : Int := if L.head? = some 45 then -1 else 1
def restL (L : List Int) : List Int := if L.head? = some 45 then L.tail else L
theorem digL_head (u : Nat) : (digL u).head? ≠ some 45 := by
  cases h : digL u with
  | nil => simp
  | cons c t =>
    have := digL_range u c (by rw [h]; simp)
    simp only [List.head?_cons, ne_eq, Option.some.injEq]; omega
theorem dec_parts (n : Int) : restL (decL n) = digL n.natAbs ∧ signI (decL n) * n.natAbs = n := by
  unfold restL signI decL
  by_cases h : n < 0
  · rw [if_pos h]; simp only [List.head?_cons, if_true, List.tail_cons, true_and]; omega
  · rw [if_neg h, if_neg (digL_head _), if_neg (digL_head _), show n.natAbs = n.toNat by omega]
    exact ⟨rfl, by omega⟩
theorem decS_inj {m n : Int} (h : decS m = decS n) : m = n := by
  have h1 : decL m = decL n := by rw [← bytes_decS m, ← bytes_decS n, h]
  have hm := dec_parts m
  have hn := dec_parts n
  rw [h1] at hm
  have h2 : digL m.natAbs = digL n.natAbs := by rw [← hm.1, ← hn.1]
  have h3 : (m.natAbs : Int) = n.natAbs := by rw [← valL_digL m.natAbs, ← valL_digL n.natAbs, h2]
  have e1 := hm.2
  rw [h3, hn.2] at e1
  exact e1.symm
/-- Is a list one of digits alone? -/
def allDig (l : List Int) : Bool := decide (∀ x ∈ l, 48 ≤ x ∧ x ≤ 57)
theorem allDig_iff {l : List Int} : allDig l = true ↔ ∀ x ∈ l, 48 ≤ x ∧ x ≤ 57 := by unfold allDig; exact decide_eq_true_iff
/-- What ReadDec gives. -/
def readDec (s : ByteArray) : Int × Bool :=
  if ((1 ≤ (restL (bytesOf s)).length ∧ (restL (bytesOf s)).length ≤ 9) ∧ allDig (restL (bytesOf s)) = true) ∧ decS (signI (bytesOf s) * valL (restL (bytesOf s)) 0) = s then (signI (bytesOf s) * valL (restL (bytesOf s)) 0, true) else (0, false)
theorem readDec_of (m : Int) (h0 : -1000000000 < m) (h1 : m < 1000000000) : readDec (decS m) = (m, true) := by
  have hp := dec_parts m
  have hl := digL_len 8 m.natAbs (by omega)
  have hp0 := digL_pos m.natAbs
  unfold readDec
  rw [bytes_decS, hp.1, valL_digL, hp.2, if_pos ⟨⟨⟨by omega, by omega⟩, allDig_iff.2 (digL_range _)⟩, rfl⟩]
theorem readDec_yes {s : ByteArray} {m : Int} (h : readDec s = (m, true)) : s = decS m ∧ -1000000000 < m ∧ m < 1000000000 := by
  unfold readDec at h
  by_cases c : ((1 ≤ (restL (bytesOf s)).length ∧ (restL (bytesOf s)).length ≤ 9) ∧ allDig (restL (bytesOf s)) = true) ∧ decS (signI (bytesOf s) * valL (restL (bytesOf s)) 0) = s
  · rw [if_pos c, Prod.mk.injEq] at h
    have hb := valL_small _ (allDig_iff.1 c.1.2) c.1.1.2
    have hs : signI (bytesOf s) = 1 ∨ signI (bytesOf s) = -1 := by unfold signI; split <;> simp
    refine ⟨by rw [← h.1]; exact c.2.symm, ?_⟩
    rw [← h.1]
    rcases hs with hs | hs <;> rw [hs] <;> omega
  · rw [if_neg c, Prod.mk.injEq] at h; cases h.2
theorem readDec_cases (s : ByteArray) : (∃ m, readDec s = (m, true)) ∨ readDec s = (0, false) := by
  unfold readDec
  split
  · exact .inl ⟨_, rfl⟩
  · exact .inr rfl
end Go.Proofs.YtbdjconojnjgdaaDoor.M
