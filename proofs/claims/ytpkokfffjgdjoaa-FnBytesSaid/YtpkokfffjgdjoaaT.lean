/- Plain facts about trees in preorder, each node with its depth: what a right tree is, where a node's descendants end, its parent, its children. Conditions: those that each lemma names. -/
import Derived.Test.YtpkokfffjgdjoaaM
namespace Go.Proofs.Ytpkokfffjgdjoaa.T
open Go.RowKit Go.Proofs.YtpkokfffjgdjoaaW.PrintWords Go.Proofs.YtpkokfffjgdjoaaW.PrintMore Go.Proofs.Ytpkokfffjgdjoaa.M
set_option linter.unusedVariables false
set_option linter.unusedSimpArgs false

/-- Node i can stand where it stands. -/
def nodeOk (lab dep : Nat → Int) (i : Nat) : Prop := 0 ≤ lab i ∧ lab i ≤ 5 ∧ 0 ≤ dep i ∧ dep i ≤ 12 ∧ (i = 0 → dep i = 0) ∧ (0 < i → 1 ≤ dep i ∧ dep i ≤ dep (i - 1) + 1)
instance (lab dep : Nat → Int) (i : Nat) : Decidable (nodeOk lab dep i) := by unfold nodeOk; infer_instance
def treeP (lab dep : Nat → Int) (n : Nat) : Prop := (1 ≤ n ∧ n ≤ 24) ∧ ∀ i, i < n → nodeOk lab dep i
instance (lab dep : Nat → Int) (n : Nat) : Decidable (treeP lab dep n) := by unfold treeP; infer_instance
def treeB (lab dep : Nat → Int) (n : Nat) : Bool := decide (treeP lab dep n)
theorem treeB_iff {lab dep : Nat → Int} {n : Nat} : treeB lab dep n = true ↔ treeP lab dep n := by unfold treeB; exact decide_eq_true_iff
theorem treeB_no {lab dep : Nat → Int} {n i : Nat} (hi : i < n) (h : ¬ nodeOk lab dep i) : treeB lab dep n = false := by
  unfold treeB; exact decide_eq_false (fun ht => h (ht.2 i hi))
theorem treeB_len {lab dep : Nat → Int} {n : Nat} (h : ¬ (1 ≤ n ∧ n ≤ 24)) : treeB lab dep n = false := by
  unfold treeB; exact decide_eq_false (fun ht => h ht.1)
theorem treeB_all {lab dep : Nat → Int} {n : Nat} (h : ∀ i, i < n → nodeOk lab dep i) : treeB lab dep n = decide (1 ≤ n ∧ n ≤ 24) := by
  unfold treeB treeP
  by_cases h1 : 1 ≤ n ∧ n ≤ 24
  · rw [decide_eq_true h1]; exact decide_eq_true ⟨h1, h⟩
  · rw [decide_eq_false h1]; exact decide_eq_false (fun ht => h1 ht.1)
/-- There is a node i of a right tree. -/
def atB (lab dep : Nat → Int) (n : Nat) (i : Int) : Bool := treeB lab dep n && decide (0 ≤ i ∧ i ≤ (n : Int) - 1)
theorem atB_iff {lab dep : Nat → Int} {n : Nat} {i : Int} : atB lab dep n i = true ↔ treeP lab dep n ∧ 0 ≤ i ∧ i < n := by
  unfold atB; rw [Bool.and_eq_true, treeB_iff, decide_eq_true_iff]
  constructor
  · rintro ⟨h, h1, h2⟩; exact ⟨h, h1, by omega⟩
  · rintro ⟨h, h1, h2⟩; exact ⟨h, h1, by omega⟩
theorem atB_nat {lab dep : Nat → Int} {n : Nat} {i : Int} (h : atB lab dep n i = true) : ∃ j : Nat, i = j ∧ j < n ∧ treeP lab dep n := by
  obtain ⟨h, h1, h2⟩ := atB_iff.1 h
  exact ⟨i.toNat, by omega, by omega, h⟩
theorem dep_range {lab dep : Nat → Int} {n : Nat} (h : treeP lab dep n) {i : Nat} (hi : i < n) : 0 ≤ dep i ∧ dep i ≤ 12 := by
  have := h.2 i hi; unfold nodeOk at this; exact ⟨this.2.2.1, this.2.2.2.1⟩
theorem lab_range {lab dep : Nat → Int} {n : Nat} (h : treeP lab dep n) {i : Nat} (hi : i < n) : 0 ≤ lab i ∧ lab i ≤ 5 := by
  have := h.2 i hi; unfold nodeOk at this; exact ⟨this.1, this.2.1⟩
theorem dep_step {lab dep : Nat → Int} {n : Nat} (h : treeP lab dep n) {i : Nat} (h0 : 0 < i) (hi : i < n) : 1 ≤ dep i ∧ dep i ≤ dep (i - 1) + 1 := by
  have := h.2 i hi; unfold nodeOk at this; exact this.2.2.2.2.2 h0
theorem dep_zero {lab dep : Nat → Int} {n : Nat} (h : treeP lab dep n) : dep 0 = 0 := by
  have := h.2 0 (by have := h.1; omega); unfold nodeOk at this; exact this.2.2.2.2.1 rfl

/-- From place j on, at most d places: the first whose depth is not above v. -/
def endGo (dep : Nat → Int) (v : Int) : Nat → Nat → Nat
  | 0, j => j
  | d + 1, j => if dep j > v then endGo dep v d (j + 1) else j
def endI (dep : Nat → Int) (n i : Nat) : Nat := endGo dep (dep i) (n - (i + 1)) (i + 1)
theorem endGo_le (dep : Nat → Int) (v : Int) (d : Nat) : ∀ j, j ≤ endGo dep v d j ∧ endGo dep v d j ≤ j + d := by
  induction d with
  | zero => intro j; simp [endGo]
  | succ d ih =>
    intro j; simp only [endGo]
    by_cases h : dep j > v
    · rw [if_pos h]; have := ih (j + 1); omega
    · rw [if_neg h]; omega
theorem endI_le (dep : Nat → Int) (n i : Nat) (h : i < n) : i + 1 ≤ endI dep n i ∧ endI dep n i ≤ n := by
  have := endGo_le dep (dep i) (n - (i + 1)) (i + 1); unfold endI; omega
theorem endGo_in (dep : Nat → Int) (v : Int) (d : Nat) : ∀ j k, j ≤ k → k < endGo dep v d j → dep k > v := by
  induction d with
  | zero => intro j k h1 h2; simp only [endGo] at h2; omega
  | succ d ih =>
    intro j k h1 h2; simp only [endGo] at h2
    by_cases h : dep j > v
    · rw [if_pos h] at h2
      by_cases e : j = k
      · subst e; exact h
      · exact ih (j + 1) k (by omega) h2
    · rw [if_neg h] at h2; omega
theorem endI_in {dep : Nat → Int} {n i k : Nat} (h1 : i < k) (h2 : k < endI dep n i) : dep k > dep i := endGo_in _ _ _ _ _ h1 h2
theorem endGo_at (dep : Nat → Int) (v : Int) (d : Nat) : ∀ j, endGo dep v d j < j + d → ¬ dep (endGo dep v d j) > v := by
  induction d with
  | zero => intro j h; simp only [endGo] at h; omega
  | succ d ih =>
    intro j h; simp only [endGo] at h ⊢
    by_cases c : dep j > v
    · rw [if_pos c] at h ⊢; exact ih (j + 1) (by omega)
    · rw [if_neg c]; exact c
theorem endI_at {dep : Nat → Int} {n i : Nat} (hi : i < n) (h : endI dep n i < n) : dep (endI dep n i) ≤ dep i := by
  have := endGo_at dep (dep i) (n - (i + 1)) (i + 1) (by unfold endI at h; omega)
  unfold endI; omega

/-- The places from j on, at most d, whose depth is v. -/
def kidGo (dep : Nat → Int) (v : Int) : Nat → Nat → List Int
  | 0, _ => []
  | d + 1, j => if dep j = v then (j : Int) :: kidGo dep v d (j + 1) else kidGo dep v d (j + 1)
def kidsI (dep : Nat → Int) (n i : Nat) : List Int := kidGo dep (dep i + 1) (endI dep n i - (i + 1)) (i + 1)
theorem kidGo_len (dep : Nat → Int) (v : Int) (d : Nat) : ∀ j, (kidGo dep v d j).length ≤ d := by
  induction d with
  | zero => intro j; simp [kidGo]
  | succ d ih =>
    intro j; simp only [kidGo]
    have := ih (j + 1)
    by_cases h : dep j = v
    · rw [if_pos h]; simp; exact this
    · rw [if_neg h]; omega
theorem kidGo_mem (dep : Nat → Int) (v : Int) (d : Nat) : ∀ j (x : Int), x ∈ kidGo dep v d j ↔ ∃ k : Nat, x = k ∧ j ≤ k ∧ k < j + d ∧ dep k = v := by
  induction d with
  | zero => intro j x; simp [kidGo]; intro k _ h; omega
  | succ d ih =>
    intro j x; simp only [kidGo]
    by_cases h : dep j = v
    · rw [if_pos h, List.mem_cons, ih]
      constructor
      · rintro (rfl | ⟨k, rfl, h1, h2, h3⟩)
        · exact ⟨j, rfl, by omega, by omega, h⟩
        · exact ⟨k, rfl, by omega, by omega, h3⟩
      · rintro ⟨k, rfl, h1, h2, h3⟩
        by_cases e : j = k
        · left; rw [e]
        · right; exact ⟨k, rfl, by omega, by omega, h3⟩
    · rw [if_neg h, ih]
      constructor
      · rintro ⟨k, rfl, h1, h2, h3⟩; exact ⟨k, rfl, by omega, by omega, h3⟩
      · rintro ⟨k, rfl, h1, h2, h3⟩
        have : j ≠ k := by rintro rfl; exact h h3
        exact ⟨k, rfl, by omega, by omega, h3⟩

/-- The first place of a number in a list, from j on. -/
def idxGo (x : Int) : List Int → Nat → Int
  | [], _ => -1
  | y :: l, j => if x = y then (j : Int) else idxGo x l (j + 1)

/-- The greatest depth and one, from place j on. -/
def highGo (dep : Nat → Int) : Nat → Nat → Int → Int
  | 0, _, a => a
  | d + 1, j, a => highGo dep d (j + 1) (mx a (dep j + 1))
/-- How many of the places from j on are leaves. -/
def leafGo (dep : Nat → Int) (n : Nat) : Nat → Nat → Int → Int
  | 0, _, a => a
  | d + 1, j, a => leafGo dep n d (j + 1) (if endI dep n j = j + 1 then a + 1 else a)
theorem leafGo_range (dep : Nat → Int) (n d : Nat) : ∀ (j : Nat) (a : Int), a ≤ leafGo dep n d j a ∧ leafGo dep n d j a ≤ a + d := by
  induction d with
  | zero => intro j a; simp [leafGo]
  | succ d ih =>
    intro j a; simp only [leafGo]
    by_cases h : endI dep n j = j + 1
    · rw [if_pos h]; have := ih (j + 1) (a + 1); omega
    · rw [if_neg h]; have := ih (j + 1) a; omega

theorem kidGo_skip (dep : Nat → Int) (v : Int) (d m : Nat) : ∀ j : Nat, (∀ k, j ≤ k → k < j + m → dep k ≠ v) → kidGo dep v (m + d) j = kidGo dep v d (j + m) := by
  induction m with
  | zero => intro j _; rw [Nat.zero_add]; rfl
  | succ m ih =>
    intro j hall
    rw [show m + 1 + d = (m + d) + 1 by omega]
    simp only [kidGo]
    rw [if_neg (hall j (by omega) (by omega)), ih (j + 1) (fun k h1 h2 => hall k (by omega) (by omega)), show j + 1 + m = j + (m + 1) by omega]
/-- What is under what is under a node is under the node. -/
theorem end_mono {dep : Nat → Int} {n i p : Nat} (hn : i < n) (h1 : i < p) (h2 : p < endI dep n i) : endI dep n p ≤ endI dep n i := by
  have hi := endI_le dep n i hn
  have hp := endI_le dep n p (by omega)
  by_cases h : endI dep n p ≤ endI dep n i
  · exact h
  · exfalso
    have hin := endI_in (dep := dep) (n := n) (i := p) (k := endI dep n i) (by omega) (by omega)
    have hat := endI_at (dep := dep) (n := n) (i := i) hn (by omega)
    have hpi := endI_in (dep := dep) (n := n) (i := i) (k := p) h1 h2
    omega
/-- Where a child can begin, one does. -/
theorem kid_here {lab dep : Nat → Int} {n i p : Nat} (ht : treeP lab dep n) (hi : i < n) (h1 : i < p) (h2 : p < endI dep n i) (hb : p = i + 1 ∨ ∃ c, c < p ∧ dep c = dep i + 1 ∧ endI dep n c = p) : dep p = dep i + 1 := by
  have hel := endI_le dep n i hi
  have hin := endI_in (dep := dep) (n := n) (i := i) (k := p) h1 h2
  rcases hb with rfl | ⟨c, hc, hdc, hec⟩
  · have := (dep_step ht (i := i + 1) (by omega) (by omega)).2
    rw [Nat.add_sub_cancel] at this
    omega
  · have := endI_at (dep := dep) (n := n) (i := c) (by omega) (by omega)
    rw [hec] at this
    omega
/-- The children from p on: p itself, and those behind what is under it. -/
theorem kids_next {lab dep : Nat → Int} {n i p : Nat} (ht : treeP lab dep n) (hi : i < n) (h1 : i < p) (h2 : p < endI dep n i) (hd : dep p = dep i + 1) :
    kidGo dep (dep i + 1) (endI dep n i - p) p = (p : Int) :: kidGo dep (dep i + 1) (endI dep n i - endI dep n p) (endI dep n p) := by
  have hel := endI_le dep n i hi
  have hpl := endI_le dep n p (by omega)
  have hm := end_mono hi h1 h2
  rw [show endI dep n i - p = ((endI dep n p - (p + 1)) + (endI dep n i - endI dep n p)) + 1 by omega]
  simp only [kidGo]
  rw [if_pos hd, kidGo_skip dep (dep i + 1) _ _ (p + 1) (fun k ha hb => by have := endI_in (dep := dep) (n := n) (i := p) (k := k) (by omega) (by omega); omega)]
  rw [show p + 1 + (endI dep n p - (p + 1)) = endI dep n p by omega]
end Go.Proofs.Ytpkokfffjgdjoaa.T
