/- The program's comparison of two nodes is the order of their ranks; a list of all nodes sorted by it is the list by rank. Conditions: those that each lemma names. -/
import Derived.Test.YtejcbclcifnomaaU
import Derived.Test.YtejcbclcifnomaaS
namespace Go.Proofs.Ytejcbclcifnomaa.V
open Go.RowKit Go.Sort Go.Shelf Go.Proofs.YtejcbclcifnomaaW.PrintWords Go.Proofs.YtejcbclcifnomaaW.PrintMore Go.Proofs.Ytejcbclcifnomaa.M Go.Proofs.Ytejcbclcifnomaa.T Go.Proofs.Ytejcbclcifnomaa.U Go.Proofs.Ytejcbclcifnomaa.S
set_option linter.unusedVariables false
set_option linter.unusedSimpArgs false
def endE (dep : Nat → Int) (n i : Nat) : Int := (endI dep n i : Int)
theorem cmp_rank {lab dep : Nat → Int} {n x y : Nat} (h : treeP lab dep n) (hx : x < n) (hy : y < n) : cmpI (x : Int) (y : Int) (endI dep n x : Int) (endI dep n y : Int) < 0 ↔ rnk dep n x < rnk dep n y := by
  unfold cmpI
  rcases Nat.lt_trichotomy x y with c | c | c
  · by_cases e : y < endI dep n x
    · have := rnk_under h hx c e
      rw [if_pos (.inl ⟨by omega, by omega⟩)]
      omega
    · have := rnk_left h c hy (by omega)
      rw [if_neg (by omega), if_neg (by omega)]
      omega
  · subst c
    rw [if_neg (by omega), if_pos rfl]
    omega
  · by_cases e : x < endI dep n y
    · have := rnk_under h hy c e
      rw [if_neg (by omega), if_neg (by omega)]
      omega
    · have := rnk_left h c hx (by omega)
      rw [if_pos (.inr ⟨by omega, by omega⟩)]
      omega
theorem lt_rank {lab dep : Nat → Int} {n : Nat} (h : treeP lab dep n) (x y : Nat) : ltOf (cmpE (endE dep n) n) x y = decide (rnk dep n (min x (n - 1)) < rnk dep n (min y (n - 1))) := by
  have hn := h.1
  have := cmp_rank (x := min x (n - 1)) (y := min y (n - 1)) h (by omega) (by omega)
  unfold ltOf cmpE endE
  exact decide_eq_decide.2 this
theorem swo_rank {lab dep : Nat → Int} {n : Nat} (h : treeP lab dep n) : swoE (endE dep n) n := by
  refine ⟨fun x => ?_, fun x y z => ?_, fun x y z => ?_⟩
  · rw [lt_rank h]; exact decide_eq_false (by omega)
  · rw [lt_rank h, lt_rank h, lt_rank h, decide_eq_true_eq, decide_eq_true_eq, decide_eq_true_eq]; omega
  · rw [lt_rank h, lt_rank h, lt_rank h, decide_eq_false_iff_not, decide_eq_false_iff_not, decide_eq_false_iff_not]; omega
theorem sorted_post {lab dep : Nat → Int} {n : Nat} (h : treeP lab dep n) : isPost dep n 0 (outI n (sorted (endE dep n) n)) := by
  have hn := h.1
  have he := end_root h
  have hs := pdq_sorts (ltOf (cmpE (endE dep n) n)) (swo_rank h) (Array.range n) 0 n (Lib.bitLen n) true true (Nat.zero_le _) (by simp) (Or.inl rfl)
  have hsz := sorted_size (endE dep n) n (swo_rank h)
  unfold sorted at hsz
  have hp : (sorted (endE dep n) n).toList.Perm (List.range n) := by
    have h1 := hs.1.2.2
    have e1 : (pdq (ltOf (cmpE (endE dep n) n)) (Array.range n) 0 n (Lib.bitLen n) true true).extract 0 n = pdq (ltOf (cmpE (endE dep n) n)) (Array.range n) 0 n (Lib.bitLen n) true true := by
      apply Array.extract_eq_self_of_le; omega
    have e2 : (Array.range n).extract 0 n = Array.range n := by apply Array.extract_eq_self_of_le; simp
    rw [e1, e2, Array.toList_range] at h1
    exact h1
  have hso := hs.2
  generalize hd : pdq (ltOf (cmpE (endE dep n) n)) (Array.range n) 0 n (Lib.bitLen n) true true = d at hso hsz
  have hd2 : sorted (endE dep n) n = d := hd
  rw [hd2] at hp ⊢
  have hmem : ∀ x, x ∈ d.toList ↔ x < n := fun x => by rw [hp.mem_iff, List.mem_range]
  have hnd : d.toList.Nodup := hp.nodup_iff.2 List.nodup_range
  have hlen : d.toList.length = n := by rw [Array.length_toList, hsz]
  refine ⟨fun x => ?_, ?_, ?_⟩
  · unfold outI
    rw [List.mem_map, he]
    constructor
    · rintro ⟨a, ha, rfl⟩
      have := (hmem a).1 ha
      exact ⟨a, by omega, by omega, this⟩
    · rintro ⟨j, rfl, _, hj⟩
      exact ⟨j, (hmem j).2 hj, by omega⟩
  · unfold outI
    rw [List.pairwise_map, List.pairwise_iff_getElem]
    intro i j hi hj hij
    have h1 := hso i j (Nat.zero_le _) hij (by omega)
    have hi' : i < d.size := by rw [hsz]; omega
    have hj' : j < d.size := by rw [hsz]; omega
    rw [lt_rank h, decide_eq_false_iff_not, getElem!_pos d i hi', getElem!_pos d j hj'] at h1
    have hdi : d[i] < n := (hmem _).1 (by simp)
    have hdj : d[j] < n := (hmem _).1 (by simp)
    have hne : d[i] ≠ d[j] := by
      have h3 := (List.pairwise_iff_getElem.1 hnd) i j (by omega) (by omega) hij
      simpa only [Array.getElem_toList] using h3
    simp only [Array.getElem_toList, Int.toNat_natCast]
    rw [Nat.min_eq_left (by omega), Nat.min_eq_left (by omega)] at h1 ⊢
    have := rnk_ne h hdi hdj hne
    omega
  · unfold outI
    rw [List.length_map, hlen, he]
    omega
end Go.Proofs.Ytejcbclcifnomaa.V
