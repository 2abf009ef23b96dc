/- Plain facts: how many ranks are the last with their first leaf; as many as leaves. Conditions: those that each lemma names. -/
import Derived.Test.YtejcbclcifnomaaX
namespace Go.Proofs.Ytejcbclcifnomaa.Y
open Go.RowKit Go.Proofs.YtejcbclcifnomaaW.PrintWords Go.Proofs.YtejcbclcifnomaaW.PrintMore Go.Proofs.Ytejcbclcifnomaa.M Go.Proofs.Ytejcbclcifnomaa.T Go.Proofs.Ytejcbclcifnomaa.U Go.Proofs.Ytejcbclcifnomaa.X
set_option linter.unusedVariables false
set_option linter.unusedSimpArgs false
theorem dropD (xs : List Int) (j : Nat) (h : j < xs.length) : xs.drop j = xs.getD j 0 :: xs.drop (j + 1) := by
  rw [List.drop_eq_getElem_cons h]; simp [List.getD_eq_getElem?_getD, h]
def valR (f : List Int) (r : Int) : Int := f.getD r.toNat 0
theorem rootGo_vals (f : List Int) (d : Nat) : ∀ k : Nat, k + d = f.length → ((rootGo f d k).map (valR f)).Nodup ∧ ∀ x, x ∈ (rootGo f d k).map (valR f) ↔ x ∈ f.drop k := by
  induction d with
  | zero =>
    intro k hk
    rw [List.drop_of_length_le (by omega)]
    exact ⟨by simp [rootGo], fun x => by simp [rootGo]⟩
  | succ d ih =>
    intro k hk
    have hkl : k < f.length := by omega
    obtain ⟨h1, h2⟩ := ih (k + 1) (by omega)
    have e : valR f (k : Int) = f.getD k 0 := rfl
    rw [dropD f k hkl]
    by_cases h : f.getD k 0 ∈ f.drop (k + 1)
    · have hb : ¬ lastB f k = true := by unfold lastB; simp only [decide_eq_true h, Bool.not_true]; exact Bool.false_ne_true
      simp only [rootGo, if_neg hb]
      refine ⟨h1, fun x => ?_⟩
      rw [h2 x, List.mem_cons]
      constructor
      · exact fun c => .inr c
      · rintro (rfl | c)
        · exact h
        · exact c
    · have hb : lastB f k = true := by unfold lastB; simp only [decide_eq_false h, Bool.not_false]
      simp only [rootGo, if_pos hb, List.map_cons, e]
      refine ⟨List.nodup_cons.2 ⟨fun c => h ((h2 _).1 c), h1⟩, fun x => ?_⟩
      rw [List.mem_cons, List.mem_cons, h2 x]
theorem rootGo_up (f : List Int) (d : Nat) : ∀ k : Nat, (rootGo f d k).Pairwise (fun x y => x < y) := by
  induction d with
  | zero => intro k; simp [rootGo]
  | succ d ih =>
    intro k
    simp only [rootGo]
    split
    · refine List.pairwise_cons.2 ⟨fun y hy => ?_, ih (k + 1)⟩
      obtain ⟨j, rfl, hj, _⟩ := rootGo_mem f d (k + 1) y hy
      omega
    · exact ih (k + 1)
theorem rootGo_last (f : List Int) (d : Nat) : ∀ k : Nat, k + d = f.length → 0 < d → ∃ pre, rootGo f d k = pre ++ [((f.length - 1 : Nat) : Int)] := by
  induction d with
  | zero => intro k _ h; omega
  | succ d ih =>
    intro k hk _
    by_cases c : d = 0
    · subst c
      have hb : lastB f k = true := by unfold lastB; rw [List.drop_of_length_le (by omega)]; simp
      simp only [rootGo, if_pos hb]
      exact ⟨[], by rw [show f.length - 1 = k by omega]; rfl⟩
    · obtain ⟨pre, hp⟩ := ih (k + 1) (by omega) (by omega)
      simp only [rootGo, hp]
      split
      · exact ⟨(k : Int) :: pre, rfl⟩
      · exact ⟨pre, rfl⟩
/-- The leaves' ranks. -/
def leafL (dep : Nat → Int) (n : Nat) : Nat → Nat → List Int
  | 0, _ => []
  | d + 1, j => if endI dep n j = j + 1 then ((j : Int) - dep j) :: leafL dep n d (j + 1) else leafL dep n d (j + 1)
theorem leafL_count (dep : Nat → Int) (n d : Nat) : ∀ (j : Nat) (a : Int), leafGo dep n d j a = a + (leafL dep n d j).length := by
  induction d with
  | zero => intro j a; simp [leafGo, leafL]
  | succ d ih =>
    intro j a
    simp only [leafGo, leafL]
    by_cases h : endI dep n j = j + 1
    · rw [if_pos h, if_pos h, ih, List.length_cons]; omega
    · rw [if_neg h, if_neg h, ih]
theorem leafL_mem (dep : Nat → Int) (n d : Nat) : ∀ (j : Nat) (x : Int), x ∈ leafL dep n d j ↔ ∃ q : Nat, j ≤ q ∧ q < j + d ∧ endI dep n q = q + 1 ∧ x = (q : Int) - dep q := by
  induction d with
  | zero =>
    intro j x
    simp only [leafL, List.not_mem_nil, false_iff]
    rintro ⟨q, h1, h2, _⟩
    omega
  | succ d ih =>
    intro j x
    simp only [leafL]
    by_cases h : endI dep n j = j + 1
    · rw [if_pos h, List.mem_cons, ih]
      constructor
      · rintro (e | ⟨q, h1, h2, h3, h4⟩)
        · exact ⟨j, by omega, by omega, h, e⟩
        · exact ⟨q, by omega, by omega, h3, h4⟩
      · rintro ⟨q, h1, h2, h3, h4⟩
        by_cases c : q = j
        · subst c; exact .inl h4
        · exact .inr ⟨q, by omega, by omega, h3, h4⟩
    · rw [if_neg h, ih]
      constructor
      · rintro ⟨q, h1, h2, h3, h4⟩
        exact ⟨q, by omega, by omega, h3, h4⟩
      · rintro ⟨q, h1, h2, h3, h4⟩
        by_cases c : q = j
        · subst c; exact absurd h3 h
        · exact ⟨q, by omega, by omega, h3, h4⟩
theorem leafL_nodup {lab dep : Nat → Int} {n : Nat} (ht : treeP lab dep n) (d : Nat) : ∀ j : Nat, j + d ≤ n → (leafL dep n d j).Nodup := by
  induction d with
  | zero => intro j _; simp [leafL]
  | succ d ih =>
    intro j hj
    simp only [leafL]
    by_cases h : endI dep n j = j + 1
    · rw [if_pos h]
      refine List.nodup_cons.2 ⟨fun c => ?_, ih (j + 1) (by omega)⟩
      obtain ⟨q, h1, h2, h3, h4⟩ := (leafL_mem dep n d (j + 1) _).1 c
      have := rnk_ne ht (x := j) (y := q) (by omega) (by omega) (by omega)
      unfold rnk at this
      rw [h, h3] at this
      omega
    · rw [if_neg h]; exact ih (j + 1) (by omega)
theorem first_of {lab dep : Nat → Int} {n : Nat} (ht : treeP lab dep n) (d : Nat) : ∀ i : Nat, i < n → n - i ≤ d → ∃ q : Nat, q < n ∧ endI dep n q = q + 1 ∧ (i : Int) - dep i = (q : Int) - dep q := by
  induction d with
  | zero => intro i hi hd; omega
  | succ d ih =>
    intro i hi hd
    have hel := endI_le dep n i hi
    by_cases h : endI dep n i = i + 1
    · exact ⟨i, hi, h, rfl⟩
    · have h1 := endI_in (dep := dep) (n := n) (i := i) (k := i + 1) (by omega) (by omega)
      have h2 := (dep_step ht (i := i + 1) (by omega) (by omega)).2
      rw [Nat.add_sub_cancel] at h2
      obtain ⟨q, h3, h4, h5⟩ := ih (i + 1) (by omega) (by omega)
      exact ⟨q, h3, h4, by omega⟩
theorem same_len {A B : List Int} (hA : A.Nodup) (hB : B.Nodup) (h : ∀ x, x ∈ A ↔ x ∈ B) : A.length = B.length := ((List.perm_ext_iff_of_nodup hA hB).2 h).length_eq
end Go.Proofs.Ytejcbclcifnomaa.Y
