/- Plain facts about lists of whole numbers: the places of a list, what a list holds last, sums. Conditions: those that each lemma names. -/
import Derived.Test.YtejcbclcifnomaaU
namespace Go.Proofs.Ytejcbclcifnomaa.X
open Go.RowKit Go.Proofs.YtejcbclcifnomaaW.PrintWords Go.Proofs.YtejcbclcifnomaaW.PrintMore Go.Proofs.Ytejcbclcifnomaa.M Go.Proofs.Ytejcbclcifnomaa.T Go.Proofs.Ytejcbclcifnomaa.U
set_option linter.unusedVariables false
set_option linter.unusedSimpArgs false
/-- Into place x goes where x stands in the list. -/
def setGo : List Int → Int → List Int → List Int
  | [], _, acc => acc
  | x :: xs, k, acc => setGo xs (k + 1) (acc.set x.toNat k)
theorem setGo_len : ∀ (xs : List Int) (k : Int) (acc : List Int), (setGo xs k acc).length = acc.length
  | [], _, _ => rfl
  | x :: xs, k, acc => by simp only [setGo]; rw [setGo_len xs, List.length_set]
theorem setGo_get (f : Nat → Int) (n : Nat) : ∀ (xs : List Int) (k : Int) (acc : List Int), acc.length = n → (∀ m (h : m < xs.length), f (xs[m]).toNat = k + m) → (∀ x ∈ xs, 0 ≤ x ∧ x < n) →
    (∀ i : Nat, i < n → (i : Int) ∈ xs ∨ acc.getD i 0 = f i) → ∀ i : Nat, i < n → (setGo xs k acc).getD i 0 = f i
  | [], k, acc, hl, _, _, ha => fun i hi => by
    rcases ha i hi with h | h
    · cases h
    · exact h
  | x :: xs, k, acc, hl, hf, hr, ha => fun i hi => by
    simp only [setGo]
    have hx := hr x (by simp)
    refine setGo_get f n xs (k + 1) (acc.set x.toNat k) (by rw [List.length_set, hl]) (fun m h => ?_) (fun y hy => hr y (List.mem_cons_of_mem _ hy)) (fun j hj => ?_) i hi
    · have := hf (m + 1) (by simpa using h)
      simp only [List.getElem_cons_succ] at this
      rw [this]; omega
    · by_cases c : j = x.toNat
      · right
        have h0 := hf 0 (by simp)
        simp only [List.getElem_cons_zero] at h0
        rw [c, h0]
        simp [List.getD_eq_getElem?_getD, List.getElem?_set, show x.toNat < acc.length by omega]
      · rcases ha j hj with h | h
        · rcases List.mem_cons.1 h with g | g
          · omega
          · exact .inl g
        · right
          rw [← h]
          simp [List.getD_eq_getElem?_getD, List.getElem?_set, show ¬ x.toNat = j by omega]
theorem idxGo_in (x : Int) : ∀ (xs : List Int) (j : Nat), idxGo x xs j ≥ 0 ↔ x ∈ xs
  | [], j => by simp [idxGo]
  | y :: xs, j => by
    have ih := idxGo_in x xs (j + 1)
    by_cases h : x = y
    · have e : idxGo x (y :: xs) j = (j : Int) := by simp only [idxGo]; rw [if_pos h]
      rw [e, h]
      simp
    · have e : idxGo x (y :: xs) j = idxGo x xs (j + 1) := by simp only [idxGo]; rw [if_neg h]
      rw [e, ih]
      simp [h]
theorem idxGo_mem (x : Int) (xs : List Int) (j : Nat) : decide (idxGo x xs j ≥ 0) = decide (x ∈ xs) := decide_eq_decide.2 (idxGo_in x xs j)
/-- Does place k hold what no later place holds? -/
def lastB (f : List Int) (k : Nat) : Bool := !decide (f.getD k 0 ∈ f.drop (k + 1))
def rootGo (f : List Int) : Nat → Nat → List Int
  | 0, _ => []
  | d + 1, k => if lastB f k = true then (k : Int) :: rootGo f d (k + 1) else rootGo f d (k + 1)
theorem rootGo_len (f : List Int) (d : Nat) : ∀ k, (rootGo f d k).length ≤ d := by
  induction d with
  | zero => intro k; simp [rootGo]
  | succ d ih =>
    intro k
    simp only [rootGo]
    have := ih (k + 1)
    split
    · simp; omega
    · omega
theorem rootGo_mem (f : List Int) (d : Nat) : ∀ (k : Nat) (x : Int), x ∈ rootGo f d k → ∃ j : Nat, x = j ∧ k ≤ j ∧ j < k + d := by
  induction d with
  | zero => intro k x h; simp [rootGo] at h
  | succ d ih =>
    intro k x h
    simp only [rootGo] at h
    split at h
    · rcases List.mem_cons.1 h with g | g
      · exact ⟨k, g, by omega, by omega⟩
      · obtain ⟨j, e, a, b⟩ := ih (k + 1) x g
        exact ⟨j, e, by omega, by omega⟩
    · obtain ⟨j, e, a, b⟩ := ih (k + 1) x h
      exact ⟨j, e, by omega, by omega⟩
def sumL : List Int → Int
  | [] => 0
  | x :: xs => x + sumL xs
theorem sumL_app : ∀ (xs ys : List Int), sumL (xs ++ ys) = sumL xs + sumL ys
  | [], ys => by simp [sumL]
  | x :: xs, ys => by simp only [List.cons_append, sumL, sumL_app xs ys]; omega
theorem sumL_range (b : Int) (h0 : 0 ≤ b) : ∀ xs : List Int, (∀ x ∈ xs, -b ≤ x ∧ x ≤ b) → -(xs.length * b) ≤ sumL xs ∧ sumL xs ≤ xs.length * b
  | [], _ => by simp [sumL]
  | x :: xs, h => by
    have h1 := sumL_range b h0 xs (fun y hy => h y (List.mem_cons_of_mem _ hy))
    have h2 := h x (by simp)
    have e : ((x :: xs).length : Int) * b = xs.length * b + b := by rw [List.length_cons, Int.natCast_add, Int.add_mul]; simp
    rw [e]
    simp only [sumL]
    omega
theorem sumL_mul (c : Int) : ∀ xs : List Int, sumL (xs.map fun x => c * x) = c * sumL xs
  | [] => by simp [sumL]
  | x :: xs => by simp only [List.map_cons, sumL, sumL_mul c xs, Int.mul_add]
theorem sumL_perm {xs ys : List Int} (h : xs.Perm ys) : sumL xs = sumL ys := by
  induction h with
  | nil => rfl
  | cons x _ ih => simp only [sumL, ih]
  | swap x y l => simp only [sumL]; omega
  | trans _ _ ih1 ih2 => rw [ih1, ih2]
end Go.Proofs.Ytejcbclcifnomaa.X
