/- Plain facts about trees in preorder, each node with its depth: what a right tree is, where a node's descendants end, its parent, its children. Conditions: those that each lemma names. -/
import Derived.Test.YtpkokfffjgdjoaaM
import Derived.Test.YtpkokfffjgdjoaaT
namespace Go.Proofs.Ytpkokfffjgdjoaa.T
open Go.RowKit Go.Proofs.YtpkokfffjgdjoaaW.PrintWords Go.Proofs.YtpkokfffjgdjoaaW.PrintMore Go.Proofs.Ytpkokfffjgdjoaa.M
set_option linter.unusedVariables false
set_option linter.unusedSimpArgs false

def parGo (dep : Nat → Int) (v : Int) : Nat → Int
  | 0 => -1
  | p + 1 => if dep p ≥ v then parGo dep v p else (p : Int)
def parI (dep : Nat → Int) (i : Nat) : Int := parGo dep (dep i) i
theorem parGo_range (dep : Nat → Int) (v : Int) (p : Nat) : -1 ≤ parGo dep v p ∧ parGo dep v p < p := by
  induction p with
  | zero => simp [parGo]
  | succ p ih =>
    simp only [parGo]
    by_cases h : dep p ≥ v
    · rw [if_pos h]; omega
    · rw [if_neg h]; omega
theorem parGo_skip (dep : Nat → Int) (v : Int) (a : Nat) : ∀ p : Nat, a ≤ p → (∀ k, a ≤ k → k < p → dep k ≥ v) → parGo dep v p = parGo dep v a := by
  intro p
  induction p with
  | zero => intro h _; rw [Nat.le_zero.1 h]
  | succ p ih =>
    intro h hall
    by_cases e : a = p + 1
    · rw [e]
    · simp only [parGo]
      rw [if_pos (hall p (by omega) (by omega))]
      exact ih (by omega) (fun k h1 h2 => hall k h1 (by omega))
theorem par_of_kid {dep : Nat → Int} {n i c : Nat} (h1 : i < c) (h2 : c < endI dep n i) (hd : dep c = dep i + 1) : parI dep c = i := by
  unfold parI
  rw [parGo_skip dep (dep c) (i + 1) c (by omega) (fun k ha hb => by have := endI_in (dep := dep) (n := n) (i := i) (k := k) (by omega) (by omega); omega)]
  simp only [parGo]
  rw [if_neg (by omega)]
theorem idxGo_app (x : Int) : ∀ (pre : List Int) (rest : List Int) (j : Nat), (∀ y ∈ pre, x ≠ y) → idxGo x (pre ++ x :: rest) j = ((j + pre.length : Nat) : Int)
  | [], rest, j, _ => by simp [idxGo]
  | y :: pre, rest, j, h => by
    simp only [List.cons_append, idxGo]
    rw [if_neg (h y (by simp)), idxGo_app x pre rest (j + 1) (fun z hz => h z (by simp [hz]))]
    simp only [List.length_cons]; congr 1; omega
theorem sub_tree {lab dep lab' dep' : Nat → Int} {n i : Nat} (ht : treeP lab dep n) (hi : i < n) (hl : ∀ j, j < endI dep n i - i → lab' j = lab (i + j)) (hd : ∀ j, j < endI dep n i - i → dep' j = dep (i + j) - dep i) : treeP lab' dep' (endI dep n i - i) := by
  have hel := endI_le dep n i hi
  have h24 := ht.1
  refine ⟨⟨by omega, by omega⟩, fun j hj => ?_⟩
  have hdi := dep_range ht hi
  have hdj := dep_range ht (i := i + j) (by omega)
  have hlj := lab_range ht (i := i + j) (by omega)
  unfold nodeOk
  rw [hl j hj, hd j hj]
  by_cases h0 : j = 0
  · subst h0
    simp only [Nat.add_zero] at *
    exact ⟨hlj.1, hlj.2, by omega, by omega, fun _ => by omega, fun h => by omega⟩
  · have hin := endI_in (dep := dep) (n := n) (i := i) (k := i + j) (by omega) (by omega)
    have hst := (dep_step ht (i := i + j) (by omega) (by omega)).2
    rw [hd (j - 1) (by omega), show i + (j - 1) = i + j - 1 by omega]
    exact ⟨hlj.1, hlj.2, by omega, by omega, fun h => absurd h h0, fun _ => ⟨by omega, by omega⟩⟩

end Go.Proofs.Ytpkokfffjgdjoaa.T
