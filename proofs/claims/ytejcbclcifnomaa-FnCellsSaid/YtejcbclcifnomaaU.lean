/- Plain facts about postorder: the rank of a node, the list of a subtree's nodes by rank, and that there is one such list alone. Conditions: those that each lemma names. -/
import Derived.Test.YtejcbclcifnomaaT
namespace Go.Proofs.Ytejcbclcifnomaa.U
open Go.RowKit Go.Proofs.YtejcbclcifnomaaW.PrintWords Go.Proofs.YtejcbclcifnomaaW.PrintMore Go.Proofs.Ytejcbclcifnomaa.M Go.Proofs.Ytejcbclcifnomaa.T
set_option linter.unusedVariables false
set_option linter.unusedSimpArgs false

def rnk (dep : Nat → Int) (n i : Nat) : Int := (endI dep n i : Int) - 1 - dep i
theorem dep_walk {lab dep : Nat → Int} {n : Nat} (h : treeP lab dep n) (a : Nat) : ∀ d : Nat, a + d < n → dep (a + d) ≤ dep a + d := by
  intro d
  induction d with
  | zero => intro _; simp
  | succ d ih =>
    intro hlt
    have h1 := ih (by omega)
    have h2 := (dep_step h (i := a + (d + 1)) (by omega) hlt).2
    rw [show a + (d + 1) - 1 = a + d by omega] at h2
    omega
theorem rnk_left {lab dep : Nat → Int} {n x y : Nat} (h : treeP lab dep n) (hxy : x < y) (hy : y < n) (he : endI dep n x ≤ y) : rnk dep n x < rnk dep n y := by
  have hex := endI_le dep n x (by omega)
  have hey := endI_le dep n y hy
  have h1 := endI_at (dep := dep) (n := n) (i := x) (by omega) (by omega)
  have h2 := dep_walk h (endI dep n x) (y - endI dep n x) (by omega)
  rw [show endI dep n x + (y - endI dep n x) = y by omega] at h2
  unfold rnk
  omega
theorem rnk_under {lab dep : Nat → Int} {n x y : Nat} (h : treeP lab dep n) (hy : y < n) (hxy : y < x) (he : x < endI dep n y) : rnk dep n x < rnk dep n y := by
  have h1 := end_mono hy hxy he
  have h2 := endI_in (dep := dep) (n := n) (i := y) (k := x) hxy he
  unfold rnk
  omega
theorem rnk_ne {lab dep : Nat → Int} {n x y : Nat} (h : treeP lab dep n) (hx : x < n) (hy : y < n) (hne : x ≠ y) : rnk dep n x ≠ rnk dep n y := by
  rcases Nat.lt_or_gt_of_ne hne with c | c
  · by_cases e : endI dep n x ≤ y
    · have := rnk_left h c hy e; omega
    · have := rnk_under h hx c (by omega); omega
  · by_cases e : endI dep n y ≤ x
    · have := rnk_left h c hx e; omega
    · have := rnk_under h hy c (by omega); omega
theorem rnk_range {lab dep : Nat → Int} {n x : Nat} (h : treeP lab dep n) (hx : x < n) : 0 ≤ rnk dep n x ∧ rnk dep n x < n := by
  have he := endI_le dep n x hx
  have hd := dep_range h hx
  have hw := dep_walk h 0 x (by omega)
  rw [Nat.zero_add, dep_zero h] at hw
  unfold rnk
  omega
/-- The nodes of a node's subtree, by rank. -/
def isPost (dep : Nat → Int) (n i : Nat) (L : List Int) : Prop :=
  (∀ x : Int, x ∈ L ↔ ∃ j : Nat, x = j ∧ i ≤ j ∧ j < endI dep n i) ∧ L.Pairwise (fun x y => rnk dep n x.toNat < rnk dep n y.toNat) ∧ L.length = endI dep n i - i
theorem sorted_one (f : Int → Int) : ∀ (A B : List Int), A.Pairwise (fun x y => f x < f y) → B.Pairwise (fun x y => f x < f y) → (∀ x, x ∈ A ↔ x ∈ B) → A = B
  | [], B, _, _, h => by
    cases B with
    | nil => rfl
    | cons b B => have := (h b).2 (by simp); simp at this
  | a :: A, [], _, _, h => by have := (h a).1 (by simp); simp at this
  | a :: A, b :: B, hA, hB, h => by
    rw [List.pairwise_cons] at hA hB
    have hab : a = b := by
      by_cases e : a = b
      · exact e
      · exfalso
        have h1 : b ∈ A := by
          have := (h b).2 (by simp)
          rcases List.mem_cons.1 this with g | g
          · exact absurd g.symm e
          · exact g
        have h2 : a ∈ B := by
          have := (h a).1 (by simp)
          rcases List.mem_cons.1 this with g | g
          · exact absurd g e
          · exact g
        have := hA.1 b h1
        have := hB.1 a h2
        omega
    subst hab
    congr 1
    refine sorted_one f A B hA.2 hB.2 (fun x => ⟨fun hx => ?_, fun hx => ?_⟩)
    · rcases List.mem_cons.1 ((h x).1 (List.mem_cons_of_mem _ hx)) with g | g
      · subst g; have := hA.1 x hx; omega
      · exact g
    · rcases List.mem_cons.1 ((h x).2 (List.mem_cons_of_mem _ hx)) with g | g
      · subst g; have := hB.1 x hx; omega
      · exact g
theorem isPost_one {dep : Nat → Int} {n i : Nat} {A B : List Int} (hA : isPost dep n i A) (hB : isPost dep n i B) : A = B :=
  sorted_one (fun x => rnk dep n x.toNat) A B hA.2.1 hB.2.1 (fun x => (hA.1 x).trans (hB.1 x).symm)
/-- The nodes between a node and where a child begins. -/
def isPart (dep : Nat → Int) (n i p : Nat) (L : List Int) : Prop :=
  (∀ x : Int, x ∈ L ↔ ∃ j : Nat, x = j ∧ i < j ∧ j < p) ∧ L.Pairwise (fun x y => rnk dep n x.toNat < rnk dep n y.toNat) ∧ L.length + i + 1 = p
theorem isPart_nil (dep : Nat → Int) (n i : Nat) : isPart dep n i (i + 1) [] := by
  refine ⟨fun x => ?_, List.Pairwise.nil, by simp⟩
  constructor
  · intro h; cases h
  · rintro ⟨j, _, h1, h2⟩; omega
theorem isPart_step {lab dep : Nat → Int} {n i p : Nat} (h : treeP lab dep n) (hi : i < n) (h1 : i < p) (h2 : p < endI dep n i) (hd : dep p = dep i + 1) {L M : List Int} (hL : isPart dep n i p L) (hM : isPost dep n p M) : isPart dep n i (endI dep n p) (L ++ M) := by
  have hei := endI_le dep n i hi
  have hep := endI_le dep n p (by omega)
  refine ⟨fun x => ?_, ?_, ?_⟩
  · rw [List.mem_append, hL.1, hM.1]
    constructor
    · rintro (⟨j, e, a, b⟩ | ⟨j, e, a, b⟩)
      · exact ⟨j, e, a, by omega⟩
      · exact ⟨j, e, by omega, b⟩
    · rintro ⟨j, e, a, b⟩
      by_cases c : j < p
      · exact .inl ⟨j, e, a, c⟩
      · exact .inr ⟨j, e, by omega, b⟩
  · rw [List.pairwise_append]
    refine ⟨hL.2.1, hM.2.1, fun x hx y hy => ?_⟩
    obtain ⟨j, rfl, a, b⟩ := (hL.1 x).1 hx
    obtain ⟨m, rfl, c, e⟩ := (hM.1 y).1 hy
    rw [Int.toNat_natCast, Int.toNat_natCast]
    refine rnk_left h (by omega) (by omega) ?_
    have hdj := endI_in (dep := dep) (n := n) (i := i) (k := j) a (by omega)
    by_cases g : endI dep n j ≤ p
    · omega
    · have := endI_in (dep := dep) (n := n) (i := j) (k := p) b (by omega); omega
  · rw [List.length_append, hM.2.2]; have := hL.2.2; omega
theorem isPart_end {lab dep : Nat → Int} {n i : Nat} (h : treeP lab dep n) (hi : i < n) {L : List Int} (hL : isPart dep n i (endI dep n i) L) : isPost dep n i (L ++ [(i : Int)]) := by
  have hei := endI_le dep n i hi
  refine ⟨fun x => ?_, ?_, ?_⟩
  · rw [List.mem_append, hL.1, List.mem_singleton]
    constructor
    · rintro (⟨j, e, a, b⟩ | rfl)
      · exact ⟨j, e, by omega, b⟩
      · exact ⟨i, rfl, Nat.le_refl _, by omega⟩
    · rintro ⟨j, e, a, b⟩
      by_cases c : j = i
      · right; rw [e, c]
      · exact .inl ⟨j, e, by omega, b⟩
  · rw [List.pairwise_append]
    refine ⟨hL.2.1, List.pairwise_singleton _ _, fun x hx y hy => ?_⟩
    obtain ⟨j, rfl, a, b⟩ := (hL.1 x).1 hx
    rw [List.mem_singleton] at hy
    subst hy
    rw [Int.toNat_natCast, Int.toNat_natCast]
    exact rnk_under h hi a b
  · rw [List.length_append, List.length_singleton]; have := hL.2.2; omega
theorem end_root {lab dep : Nat → Int} {n : Nat} (h : treeP lab dep n) : endI dep n 0 = n := by
  have hn := h.1
  have he := endI_le dep n 0 (by omega)
  by_cases c : endI dep n 0 < n
  · have h1 := endI_at (dep := dep) (n := n) (i := 0) (by omega) c
    have h2 := (dep_step h (i := endI dep n 0) (by omega) c).1
    rw [dep_zero h] at h1
    omega
  · omega
theorem rank_low (f : Int → Int) : ∀ (L : List Int) (m : Int), L.Pairwise (fun x y => f x < f y) → (∀ x ∈ L, m ≤ f x) → ∀ k (hk : k < L.length), m + k ≤ f (L[k])
  | [], m, _, _, k, hk => by simp at hk
  | a :: L, m, hp, hr, 0, hk => by have := hr a (by simp); simpa using this
  | a :: L, m, hp, hr, k + 1, hk => by
    rw [List.pairwise_cons] at hp
    have ha := hr a (by simp)
    have := rank_low f L (m + 1) hp.2 (fun x hx => by have := hp.1 x hx; omega) k (by simpa using hk)
    simp only [List.getElem_cons_succ]
    omega
theorem rank_high (f : Int → Int) : ∀ (L : List Int) (m : Int), L.Pairwise (fun x y => f x < f y) → (∀ x ∈ L, f x < m) → ∀ k (hk : k < L.length), f (L[k]) + L.length ≤ m + k
  | [], m, _, _, k, hk => by simp at hk
  | [a], m, hp, hr, 0, hk => by have := hr a (by simp); simp; omega
  | a :: b :: L, m, hp, hr, 0, hk => by
    rw [List.pairwise_cons] at hp
    have h1 := rank_high f (b :: L) m hp.2 (fun x hx => hr x (List.mem_cons_of_mem _ hx)) 0 (by simp)
    have h2 := hp.1 b (by simp)
    simp only [List.getElem_cons_zero, List.length_cons] at h1 ⊢
    omega
  | a :: L, m, hp, hr, k + 1, hk => by
    rw [List.pairwise_cons] at hp
    have h1 := rank_high f L m hp.2 (fun x hx => hr x (List.mem_cons_of_mem _ hx)) k (by simpa using hk)
    simp only [List.getElem_cons_succ, List.length_cons]
    omega
/-- Place k of the list of all nodes by rank holds the node of rank k. -/
theorem rank_at {lab dep : Nat → Int} {n : Nat} (h : treeP lab dep n) {L : List Int} (hL : isPost dep n 0 L) (k : Nat) (hk : k < L.length) : rnk dep n (L[k]).toNat = k := by
  have he := end_root h
  have hlen : L.length = n := by rw [hL.2.2, he]; omega
  have hr : ∀ x ∈ L, 0 ≤ rnk dep n x.toNat ∧ rnk dep n x.toNat < n := by
    intro x hx
    obtain ⟨j, rfl, _, hj⟩ := (hL.1 x).1 hx
    rw [Int.toNat_natCast]
    exact rnk_range h (by omega)
  have h1 := rank_low (fun x => rnk dep n x.toNat) L 0 hL.2.1 (fun x hx => (hr x hx).1) k hk
  have h2 := rank_high (fun x => rnk dep n x.toNat) L n hL.2.1 (fun x hx => (hr x hx).2) k hk
  omega

/-- The list of all nodes by rank. -/
noncomputable def postN (dep : Nat → Int) (n : Nat) : List Int := by
  classical exact if h : ∃ L, isPost dep n 0 L then h.choose else []
theorem postN_eq {dep : Nat → Int} {n : Nat} {L : List Int} (h : isPost dep n 0 L) : postN dep n = L := by
  have he : ∃ L, isPost dep n 0 L := ⟨L, h⟩
  unfold postN
  rw [dif_pos he]
  exact isPost_one he.choose_spec h
theorem isPart_all {dep : Nat → Int} {n i p : Nat} {L : List Int} (h : isPart dep n i p L) : L.length < p := by have := h.2.2; omega
end Go.Proofs.Ytejcbclcifnomaa.U
