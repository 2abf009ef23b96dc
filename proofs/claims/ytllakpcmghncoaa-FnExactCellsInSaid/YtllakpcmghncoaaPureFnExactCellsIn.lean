/- For every two lists of nodes, the program's CellsIn and the reference's CellsIn answer the same. Condition: none but the model's own bounds. -/
import Derived.Test.YtllakpcmghncoaaHFnExactCellsInx9
import Derived.Test.YtllakpcmghncoaaM
import Derived.Test.YtllakpcmghncoaaT
import Derived.Test.YtllakpcmghncoaaU
import Derived.Test.YtllakpcmghncoaaV
import Derived.Test.YtllakpcmghncoaaX
namespace Go.Proofs.Ytllakpcmghncoaa.PureFnExactCellsIn
open Go.RowKit Go.Proofs.Ytllakpcmghncoaa.HFnExactCellsIn Go.Proofs.YtllakpcmghncoaaW.PrintWords Go.Proofs.YtllakpcmghncoaaW.PrintLast Go.Proofs.YtllakpcmghncoaaW.PrintMore Go.Proofs.Ytllakpcmghncoaa.M Go.Proofs.Ytllakpcmghncoaa.T Go.Proofs.Ytllakpcmghncoaa.U
set_option linter.unusedVariables false
set_option linter.unusedSimpArgs false

abbrev lab (l : List S56) (i : Nat) : Int := (l.getD i z56).f0
abbrev dep (l : List S56) (i : Nat) : Int := (l.getD i z56).f1
theorem rdN (l : List S56) (i : Nat) : rd_T56 l (i : Int) = l.getD i z56 := by unfold rd_T56; simp
theorem kids_small (l : List S56) (i : Nat) (hi : i < l.length) (hl : l.length ≤ 1048576) : (kidsI (dep l) l.length i).length ≤ 1048576 := by
  have := kidGo_len (dep l) (dep l i + 1) (endI (dep l) l.length i - (i + 1)) (i + 1)
  have := endI_le (dep l) l.length i hi
  unfold kidsI; omega
def shapeP (acc : List S56) (i : Nat) (q : Int) : Prop := (i = 0 → q = 0) ∧ (0 < i → 1 ≤ q ∧ q ≤ dep acc (i - 1) + 1)
instance (acc : List S56) (i : Nat) (q : Int) : Decidable (shapeP acc i q) := by unfold shapeP; infer_instance

/-- The nodes by rank; none where the nodes are no tree. -/
noncomputable def postT (l : List S56) : List Int := if treeB (lab l) (dep l) l.length = true then postN (dep l) l.length else []
theorem postT_is (l : List S56) (h : treeP (lab l) (dep l) l.length) : isPost (dep l) l.length 0 (postT l) := by
  unfold postT
  rw [if_pos (treeB_iff.2 h), postN_eq (V.sorted_post h)]
  exact V.sorted_post h
theorem postT_no (l : List S56) (h : ¬ treeP (lab l) (dep l) l.length) : postT l = [] := by
  unfold postT
  rw [if_neg (fun c => h (treeB_iff.1 c))]
theorem postT_n (l : List S56) (h : treeP (lab l) (dep l) l.length) : (postT l).length = l.length := by
  have := (postT_is l h).2.2
  rw [end_root h] at this
  omega
theorem postT_len (l : List S56) : (postT l).length ≤ 24 := by
  by_cases h : treeP (lab l) (dep l) l.length
  · rw [postT_n l h]; exact h.1.2
  · rw [postT_no l h]; simp
theorem postT_small (l : List S56) (hl : l.length ≤ 1048576) : (postT l).length ≤ 1048576 := Nat.le_trans (postT_len l) (by decide)
theorem postT_node (l : List S56) (x : Int) (hx : x ∈ postT l) : treeP (lab l) (dep l) l.length ∧ ∃ i : Nat, x = i ∧ i < l.length := by
  by_cases h : treeP (lab l) (dep l) l.length
  · refine ⟨h, ?_⟩
    obtain ⟨j, e, _, hj⟩ := ((postT_is l h).1 x).1 hx
    rw [end_root h] at hj
    exact ⟨j, e, hj⟩
  · rw [postT_no l h] at hx; cases hx
theorem postT_range (l : List S56) (x : Int) (hx : x ∈ postT l) : 0 ≤ x ∧ x < (postT l).length := by
  obtain ⟨h, i, e, hi⟩ := postT_node l x hx
  rw [postT_n l h]; omega
/-- The rank of each node. -/
noncomputable def ranksT (l : List S56) : List Int := X.setGo (postT l) 0 (List.replicate (postT l).length 0)
theorem ranksT_len (l : List S56) : (ranksT l).length = (postT l).length := by unfold ranksT; rw [X.setGo_len, List.length_replicate]
theorem ranksT_small (l : List S56) (hl : l.length ≤ 1048576) : (ranksT l).length ≤ 1048576 := by rw [ranksT_len]; exact postT_small l hl
theorem ranksT_get (l : List S56) (h : treeP (lab l) (dep l) l.length) (i : Nat) (hi : i < l.length) : (ranksT l).getD i 0 = rnk (dep l) l.length i := by
  have hp := postT_is l h
  have hn := postT_n l h
  have he := end_root h
  refine X.setGo_get (rnk (dep l) l.length) l.length (postT l) 0 _ (by rw [List.length_replicate, hn]) (fun m hm => by rw [rank_at h hp m hm]; omega) (fun x hx => ?_) (fun j hj => .inl ((hp.1 _).2 ⟨j, rfl, by omega, by omega⟩)) i hi
  have := postT_range l x hx
  omega
/-- For each rank, the rank of the first leaf under its node. -/
noncomputable def leafT (l : List S56) : List Int := (postT l).map fun x => x - dep l x.toNat
theorem leafT_len (l : List S56) : (leafT l).length = (postT l).length := by unfold leafT; rw [List.length_map]
theorem leafT_small (l : List S56) (hl : l.length ≤ 1048576) : (leafT l).length ≤ 1048576 := by rw [leafT_len]; exact postT_small l hl
theorem leafT_range (l : List S56) (x : Int) (hx : x ∈ leafT l) : 0 ≤ x ∧ x < 24 := by
  unfold leafT at hx
  obtain ⟨y, hy, rfl⟩ := List.mem_map.1 hx
  obtain ⟨h, i, rfl, hi⟩ := postT_node l y hy
  have hw := dep_walk h 0 i (by omega)
  rw [Nat.zero_add, dep_zero h] at hw
  have hd := dep_range h hi
  have hn := h.1
  rw [Int.toNat_natCast]
  omega
theorem leafT_get (l : List S56) (k : Nat) : 0 ≤ (leafT l).getD k 0 ∧ (leafT l).getD k 0 < 24 := by
  by_cases c : k < (leafT l).length
  · have e : (leafT l).getD k 0 = (leafT l)[k] := by simp [List.getD_eq_getElem?_getD, c]
    rw [e]
    exact leafT_range l _ (List.getElem_mem c)
  · have e : (leafT l).getD k 0 = 0 := by simp [List.getD_eq_getElem?_getD, List.getElem?_eq_none (Nat.le_of_not_lt c)]
    omega
/-- Of all ranks with one first leaf the greatest. -/
noncomputable def rootsT (l : List S56) : List Int := X.rootGo (leafT l) (leafT l).length 0
theorem rootsT_small (l : List S56) (hl : l.length ≤ 1048576) : (rootsT l).length ≤ 1048576 := Nat.le_trans (X.rootGo_len _ _ _) (leafT_small l hl)
theorem rootsT_len (l : List S56) : (rootsT l).length ≤ 24 := by
  have := X.rootGo_len (leafT l) (leafT l).length 0
  have := leafT_len l
  have := postT_len l
  unfold rootsT
  omega
theorem rootsT_range (l : List S56) (x : Int) (hx : x ∈ rootsT l) : 0 ≤ x ∧ x < (leafT l).length := by
  obtain ⟨j, e, _, hj⟩ := X.rootGo_mem _ _ _ x hx
  omega
/-- How many nodes are under each of these, itself among them. -/
noncomputable def termT (l : List S56) (r : Int) : Int := r - (leafT l).getD r.toNat 0 + 1
theorem termT_range (l : List S56) (x : Int) (hx : x ∈ rootsT l) : -24 ≤ termT l x ∧ termT l x ≤ 24 := by
  have h1 := rootsT_range l x hx
  have h2 := leafT_get l x.toNat
  have h3 := leafT_len l
  have h4 := postT_len l
  unfold termT
  omega
noncomputable def cellsT (l : List S56) : Int := X.sumL ((rootsT l).map (termT l))
theorem rdD (xs : List Int) (i : Nat) : rd xs (i : Int) = xs.getD i 0 := by unfold rd; simp
theorem dropD (xs : List Int) (j : Nat) (h : j < xs.length) : xs.drop j = xs.getD j 0 :: xs.drop (j + 1) := by
  rw [List.drop_eq_getElem_cons h]; simp [List.getD_eq_getElem?_getD, h]
theorem getD_in (xs : List Int) (j : Nat) (h : j < xs.length) : xs.getD j 0 ∈ xs := by
  have e : xs.getD j 0 = xs[j] := by simp [List.getD_eq_getElem?_getD, h]
  rw [e]; exact List.getElem_mem h
theorem mul_range {a b : Int} (ha : -576 ≤ a ∧ a ≤ 576) (hb : -576 ≤ b ∧ b ≤ 576) : -331776 ≤ a * b ∧ a * b ≤ 331776 := by
  have h1 : a.natAbs * b.natAbs ≤ 576 * 576 := Nat.mul_le_mul (by omega) (by omega)
  have h2 : (a * b).natAbs = a.natAbs * b.natAbs := Int.natAbs_mul a b
  omega
theorem part_range (l : List S56) (xs : List Int) (hx : ∀ x ∈ xs, x ∈ rootsT l) (hn : xs.length ≤ 24) : -576 ≤ X.sumL (xs.map (termT l)) ∧ X.sumL (xs.map (termT l)) ≤ 576 := by
  have := X.sumL_range 24 (by omega) (xs.map (termT l)) (fun y hy => by
    obtain ⟨x, h1, rfl⟩ := List.mem_map.1 hy
    exact termT_range l x (hx x h1))
  rw [List.length_map] at this
  omega
theorem cellsT_range (l : List S56) : -576 ≤ cellsT l ∧ cellsT l ≤ 576 := part_range l (rootsT l) (fun x h => h) (rootsT_len l)
theorem term_wrap (l : List S56) (x : Int) (hx : x ∈ rootsT l) : wrap64 (wrap64 (x - rd (leafT l) x) + 1) = termT l x := by
  have h1 := rootsT_range l x hx
  have h2 := leafT_get l x.toNat
  have h3 := leafT_len l
  have h4 := postT_len l
  have e : rd (leafT l) x = (leafT l).getD x.toNat 0 := rfl
  have e1 : wrap64 (x - (leafT l).getD x.toNat 0) = x - (leafT l).getD x.toNat 0 := w64 (by omega) (by omega)
  rw [e, e1]
  clear e1
  unfold termT
  exact w64 (by omega) (by omega)
theorem take_roots (l : List S56) (j : Nat) (hj : j < (rootsT l).length) : X.sumL (((rootsT l).take (j + 1)).map (termT l)) = X.sumL (((rootsT l).take j).map (termT l)) + termT l ((rootsT l).getD j 0) := by
  have e : (rootsT l).take (j + 1) = (rootsT l).take j ++ [(rootsT l).getD j 0] := by
    rw [List.take_add_one]
    simp [List.getD_eq_getElem?_getD, hj]
  rw [e, List.map_append, X.sumL_app]
  simp [X.sumL]
theorem cellsT_no (l : List S56) (h : ¬ treeB (lab l) (dep l) l.length = true) : cellsT l = 0 := by
  have e : postT l = [] := postT_no l (fun c => h (treeB_iff.2 c))
  unfold cellsT rootsT leafT
  rw [e]
  rfl

/-! laws_szNodeS -/
theorem sz_eq (l : List S58) (hl : l.length ≤ maxLen) (a : Int) (h0 : 0 ≤ a) (h1 : a ≤ 1048576) : laws_szNodeS.f l a = some (if a < l.length then -1 else a - l.length) := by
  have hm : maxLen = 9223372036854775807 := rfl
  unfold laws_szNodeS.f
  rw [w64 (by omega) (by omega)]
  by_cases h : a < l.length
  · rw [if_pos h, if_pos (by omega)]
  · rw [if_neg h, if_neg (by omega)]

/-! spec_l1In -/
theorem spec_l1In_eq (a b c : Int) : spec_l1In.f a b c = some (decide (b ≤ a ∧ a ≤ c)) := by
  unfold spec_l1In.f
  by_cases h : b ≤ a
  · rw [if_pos h]; simp [h]
  · rw [if_neg h]; simp [h]

/-! spec_LabelOk -/
theorem spec_LabelOk_eq (a : Int) : spec_LabelOk.f a = some (decide (0 ≤ a ∧ a ≤ 5)) := by
  unfold spec_LabelOk.f; simp only [spec_l1In_eq, Option.bind_some]

/-! spec_TreeOk -/
theorem spec_TreeOk_l0 (l : List S56) (hl : l.length ≤ 1048576) (d : Nat) : ∀ i : Nat, i + d = l.length → (∀ j, j < i → nodeOk (lab l) (dep l) j) → Ev (fun k => spec_TreeOk.l0 k l i) (treeB (lab l) (dep l) l.length) := by
  induction d with
  | zero =>
    intro i hi hall
    refine Ev.step (fun k => by simp only [spec_TreeOk.l0]; rw [if_neg (by omega)]) ?_
    simp only [spec_l1In_eq, Option.bind_some]
    refine evSome ?_
    have e : i = l.length := by omega
    rw [treeB_all (by rw [← e]; exact hall)]
    congr 1; simp; omega
  | succ d ih =>
    intro i hi hall
    have hil : i < l.length := by omega
    have c1 : (i : Int) < (l.length : Int) := by omega
    have c2 : (0 : Int) ≤ (i : Int) := by omega
    refine Ev.step (fun k => by simp only [spec_TreeOk.l0]; rw [if_pos c1, if_pos c2]) ?_
    simp only [spec_LabelOk_eq, spec_l1In_eq, Option.bind_some, rdN, decide_eq_true_eq]
    by_cases h1 : 0 ≤ lab l i ∧ lab l i ≤ 5
    · simp only [if_pos h1]
      by_cases h2 : 0 ≤ dep l i ∧ dep l i ≤ 12
      · simp only [if_pos h2]
        by_cases h0 : i = 0
        · subst h0
          by_cases hz : dep l 0 = 0
          · have hb : ((dep l 0 == 0) != (((0 : Nat) : Int) == 0)) = false := by rw [hz]; rfl
            have hn := ih 1 (by omega) (fun j hj => by
              have : j = 0 := by omega
              subst this; exact ⟨h1.1, h1.2, h2.1, h2.2, fun _ => hz, fun h => by omega⟩)
            have e4 : wrap64 (((0 : Nat) : Int) + 1) = ((1 : Nat) : Int) := by rw [w64 (by omega) (by omega)]; rfl
            simp only [hb, Bool.false_eq_true, if_false, e4, if_neg (show ¬ ((0 : Nat) : Int) > 0 by omega)]
            exact hn
          · have hb : ((dep l 0 == 0) != (((0 : Nat) : Int) == 0)) = true := by simp [hz]
            simp only [hb, if_true]
            refine evSome (treeB_no hil ?_).symm
            intro h; exact hz (h.2.2.2.2.1 rfl)
        · have hiz : ((i : Int) == 0) = false := by simp; omega
          by_cases hz : dep l i = 0
          · have hb : ((dep l i == 0) != ((i : Int) == 0)) = true := by rw [hiz, hz]; rfl
            simp only [hb, if_true]
            refine evSome (treeB_no hil ?_).symm
            intro h; have := h.2.2.2.2.2 (by omega); omega
          · have hb : ((dep l i == 0) != ((i : Int) == 0)) = false := by rw [hiz]; simp [hz]
            have hp := hall (i - 1) (by omega)
            have hpr : 0 ≤ dep l (i - 1) ∧ dep l (i - 1) ≤ 12 := ⟨hp.2.2.1, hp.2.2.2.1⟩
            have hn : (1 ≤ dep l i ∧ dep l i ≤ dep l (i - 1) + 1) → _ := fun hd => ih (i + 1) (by omega) (fun j hj => by
              by_cases hji : j < i
              · exact hall j hji
              · have : j = i := by omega
                subst this; exact ⟨h1.1, h1.2, h2.1, h2.2, fun h => by omega, fun _ => hd⟩)
            have e3 : wrap64 ((i : Int) - 1) = ((i - 1 : Nat) : Int) := by rw [w64 (by omega) (by omega)]; omega
            have e4 : wrap64 ((i : Int) + 1) = ((i + 1 : Nat) : Int) := by rw [w64 (by omega) (by omega)]; rfl
            have c5 : (0 : Int) ≤ ((i - 1 : Nat) : Int) := by omega
            have c6 : ((i - 1 : Nat) : Int) < (l.length : Int) := by omega
            have e5 : wrap64 (dep l (i - 1) + 1) = dep l (i - 1) + 1 := w64 (by omega) (by omega)
            simp only [hb, Bool.false_eq_true, if_false, e3, e4, if_pos (show (i : Int) > 0 by omega), if_pos c5, if_pos c6, rdN, e5]
            by_cases hd : dep l i > dep l (i - 1) + 1
            · simp only [if_pos hd]
              refine evSome (treeB_no hil ?_).symm
              intro h; have := (h.2.2.2.2.2 (by omega)).2; omega
            · simp only [if_neg hd]
              exact hn ⟨by omega, by omega⟩
      · simp only [if_neg h2]
        exact evSome (treeB_no hil (fun h => h2 ⟨h.2.2.1, h.2.2.2.1⟩)).symm
    · simp only [if_neg h1]
      exact evSome (treeB_no hil (fun h => h1 ⟨h.1, h.2.1⟩)).symm
theorem spec_TreeOk_ev (l : List S56) (hl : l.length ≤ 1048576) : Ev (fun k => spec_TreeOk.f k l) (treeB (lab l) (dep l) l.length) :=
  spec_TreeOk_l0 l hl l.length 0 (by omega) (fun j hj => by omega)

/-! spec_l3At -/
theorem spec_l3At_ev (l : List S56) (hl : l.length ≤ 1048576) (a : Int) : Ev (fun k => spec_l3At.f k l a) (atB (lab l) (dep l) l.length a) := by
  unfold spec_l3At.f
  refine Ev.bind (spec_TreeOk_ev l hl) ?_
  have e : wrap64 ((l.length : Int) - 1) = (l.length : Int) - 1 := w64 (by omega) (by omega)
  simp only [spec_l1In_eq, Option.bind_some, e, atB]
  by_cases h : treeB (lab l) (dep l) l.length = true
  · simp only [h, if_true, Bool.true_and]; exact Ev.now _
  · simp only [Bool.eq_false_iff.mpr h, Bool.false_eq_true, if_false, Bool.false_and]; exact Ev.now _

/-! spec_EndOf -/
theorem spec_EndOf_l0 (l : List S56) (hl : l.length ≤ 1048576) (i : Nat) (hi : i < l.length) (d : Nat) : ∀ j : Nat, j + d = l.length → Ev (fun k => spec_EndOf.l0 k l i j) ((endGo (dep l) (dep l i) d j : Nat) : Int) := by
  induction d with
  | zero =>
    intro j hj
    exact Ev.step (f := fun _ => some ((j : Nat) : Int)) (fun k => by simp only [spec_EndOf.l0]; rw [if_neg (by omega)]) (Ev.now _)
  | succ d ih =>
    intro j hj
    have c1 : (j : Int) < (l.length : Int) := by omega
    have c2 : (0 : Int) ≤ (j : Int) := by omega
    have c3 : (0 : Int) ≤ (i : Int) := by omega
    have c4 : (i : Int) < (l.length : Int) := by omega
    have e4 : wrap64 ((j : Int) + 1) = ((j + 1 : Nat) : Int) := by rw [w64 (by omega) (by omega)]; rfl
    refine Ev.step (fun k => by simp only [spec_EndOf.l0]; rw [if_pos c1, if_pos c2, if_pos c3, if_pos c4, e4, rdN, rdN]) ?_
    simp only [endGo]
    by_cases h : dep l j > dep l i
    · simp only [if_pos h]; exact ih (j + 1) (by omega)
    · simp only [if_neg h]; exact Ev.now _

theorem spec_EndOf_ev (l : List S56) (hl : l.length ≤ 1048576) (a : Int) : Ev (fun k => spec_EndOf.f k l a) (if atB (lab l) (dep l) l.length a = true then ((endI (dep l) l.length a.toNat : Nat) : Int) else -1) := by
  unfold spec_EndOf.f
  refine Ev.bind (spec_l3At_ev l hl a) ?_
  by_cases h : atB (lab l) (dep l) l.length a = true
  · obtain ⟨i, rfl, hi, _⟩ := atB_nat h
    have e4 : wrap64 ((i : Int) + 1) = ((i + 1 : Nat) : Int) := by rw [w64 (by omega) (by omega)]; rfl
    simp only [if_pos h, e4, Int.toNat_natCast]
    exact spec_EndOf_l0 l hl i hi (l.length - (i + 1)) (i + 1) (by omega)
  · simp only [if_neg h]; exact Ev.now _

/-! spec_KidsOf -/
theorem spec_KidsOf_l0 (l : List S56) (hl : l.length ≤ 1048576) (i : Nat) (hat : atB (lab l) (dep l) l.length i = true) (d : Nat) : ∀ (j : Nat) (acc : List Int), j + d = endI (dep l) l.length i → acc.length ≤ j → Ev (fun k => spec_KidsOf.l0 k l i acc j) (acc ++ kidGo (dep l) (dep l i + 1) d j) := by
  obtain ⟨i', hi', hi, ht⟩ := atB_nat hat
  have hii : i' = i := by omega
  rw [hii] at hi
  clear hi' hii
  have hel := endI_le (dep l) l.length i hi
  have hdr := dep_range ht hi
  have e5 : wrap64 (dep l i + 1) = dep l i + 1 := w64 (by omega) (by omega)
  induction d with
  | zero =>
    intro j acc hj ha
    refine Ev.step (fun k => by rw [spec_KidsOf.l0]) ?_
    refine Ev.bind (spec_l3At_ev l hl _) ?_
    simp only [if_pos hat]
    refine Ev.bind (spec_EndOf_ev l hl _) ?_
    simp only [if_pos hat, Int.toNat_natCast]
    rw [decide_eq_false (by omega)]
    refine Ev.step (fun k => by rw [spec_KidsOf.j1]) ?_
    simp only [Bool.false_eq_true, if_false, kidGo, List.append_nil]; exact Ev.now _
  | succ d ih =>
    intro j acc hj ha
    refine Ev.step (fun k => by rw [spec_KidsOf.l0]) ?_
    refine Ev.bind (spec_l3At_ev l hl _) ?_
    simp only [if_pos hat]
    refine Ev.bind (spec_EndOf_ev l hl _) ?_
    simp only [if_pos hat, Int.toNat_natCast]
    rw [decide_eq_true (by omega)]
    have c1 : (j : Int) < (l.length : Int) := by omega
    have c2 : (0 : Int) ≤ (j : Int) := by omega
    have c3 : (0 : Int) ≤ (i : Int) := by omega
    have c4 : (i : Int) < (l.length : Int) := by omega
    have e4 : wrap64 ((j : Int) + 1) = ((j + 1 : Nat) : Int) := by rw [w64 (by omega) (by omega)]; rfl
    refine Ev.step (fun k => by rw [spec_KidsOf.j1]) ?_
    simp only [if_true, if_pos c2, if_pos c1, if_pos c3, if_pos c4, e4, rdN, e5, kidGo]
    by_cases h : dep l j = dep l i + 1
    · have hl1 : acc.length < 17592186044416 := by omega
      simp only [if_pos h, if_pos hl1]
      have := ih (j + 1) (acc ++ [(j : Int)]) (by omega) (by simp; omega)
      simpa only [List.append_assoc, List.cons_append, List.nil_append] using this
    · simp only [if_neg h]
      exact ih (j + 1) acc (by omega) (by omega)

theorem spec_KidsOf_ev (l : List S56) (hl : l.length ≤ 1048576) (a : Int) (hw : -9223372036854775808 ≤ a ∧ a ≤ 9223372036854775807) : Ev (fun k => spec_KidsOf.f k l a) (if atB (lab l) (dep l) l.length a = true then kidsI (dep l) l.length a.toNat else []) := by
  unfold spec_KidsOf.f
  by_cases h : atB (lab l) (dep l) l.length a = true
  · obtain ⟨i, rfl, hi, _⟩ := atB_nat h
    have e4 : wrap64 ((i : Int) + 1) = ((i + 1 : Nat) : Int) := by rw [w64 (by omega) (by omega)]; rfl
    have hel := endI_le (dep l) l.length i hi
    simp only [if_pos h, e4, Int.toNat_natCast]
    have := spec_KidsOf_l0 l hl i h (endI (dep l) l.length i - (i + 1)) (i + 1) [] (by omega) (by simp)
    rw [List.nil_append] at this
    exact this
  · simp only [if_neg h]
    refine Ev.step (fun k => by rw [spec_KidsOf.l0]) ?_
    refine Ev.bind (spec_l3At_ev l hl _) ?_
    simp only [if_neg h]
    refine Ev.step (fun k => by rw [spec_KidsOf.j1]) ?_
    simp only [Bool.false_eq_true, if_false]; exact Ev.now _

/-! spec_l6Post -/
theorem spec_l6Post_ev (l : List S56) (hl : l.length ≤ 1048576) (ht : treeP (lab l) (dep l) l.length) (m : Nat) : ∀ i : Nat, i < l.length → endI (dep l) l.length i - i ≤ m → ∃ R, isPost (dep l) l.length i R ∧ Ev (fun k => spec_l6Post.f k l (i : Int)) R := by
  induction m with
  | zero =>
    intro i hi hm
    have hel := endI_le (dep l) l.length i hi
    omega
  | succ m ihm =>
    intro i hi hm
    have hel := endI_le (dep l) l.length i hi
    have hat : atB (lab l) (dep l) l.length (i : Int) = true := atB_iff.2 ⟨ht, by omega, by omega⟩
    have loop : ∀ d : Nat, ∀ (p : Nat) (pre acc : List Int), endI (dep l) l.length i - p ≤ d → i < p → p ≤ endI (dep l) l.length i →
        kidsI (dep l) l.length i = pre ++ kidGo (dep l) (dep l i + 1) (endI (dep l) l.length i - p) p → (p = i + 1 ∨ ∃ c, c < p ∧ dep l c = dep l i + 1 ∧ endI (dep l) l.length c = p) →
        isPart (dep l) l.length i p acc → ∃ R, isPost (dep l) l.length i R ∧ Ev (fun k => spec_l6Post.l0 k l i acc (kidsI (dep l) l.length i) pre.length) R := by
      intro d
      induction d with
      | zero =>
        intro p pre acc hd h1 h2 hk hb hp
        have hpe : p = endI (dep l) l.length i := by omega
        subst hpe
        rw [Nat.sub_self] at hk
        simp only [kidGo, List.append_nil] at hk
        have c0 : ¬ ((pre.length : Int) < ((kidsI (dep l) l.length i).length : Int)) := by rw [hk]; omega
        have hal := isPart_all hp
        have c1 : acc.length < 17592186044416 := by omega
        refine ⟨_, isPart_end ht hi hp, ?_⟩
        refine Ev.step (fun k => by rw [spec_l6Post.l0, if_neg c0, if_pos c1]) ?_
        exact Ev.now _
      | succ d ih =>
        intro p pre acc hd h1 h2 hk hb hp
        by_cases hlt : p < endI (dep l) l.length i
        · have hdp := kid_here ht hi h1 hlt hb
          have hnx := kids_next ht hi h1 hlt hdp
          have hm2 := end_mono hi h1 hlt
          have hpl := endI_le (dep l) l.length p (by omega)
          rw [hnx] at hk
          have c0 : (pre.length : Int) < ((kidsI (dep l) l.length i).length : Int) := by rw [hk]; simp; omega
          have c1 : (0 : Int) ≤ (pre.length : Int) := by omega
          have er : rd (kidsI (dep l) l.length i) (pre.length : Int) = (p : Int) := by rw [hk]; unfold rd; simp [List.getD_eq_getElem?_getD]
          have hal := isPart_all hp
          obtain ⟨M, hM, hMe⟩ := ihm p (by omega) (by omega)
          have hMl := hM.2.2
          have c2 : acc.length + M.length < 17592186044416 := by omega
          have e3 : wrap64 ((pre.length : Int) + 1) = (((pre ++ [(p : Int)]).length : Nat) : Int) := by
            have hkl := kids_small l i hi hl
            rw [hk] at hkl
            simp at hkl
            rw [w64 (by omega) (by omega)]; simp
          obtain ⟨R, hR, hRe⟩ := ih (endI (dep l) l.length p) (pre ++ [(p : Int)]) (acc ++ M) (by omega) (by omega) hm2 (by rw [hk]; simp) (.inr ⟨p, by omega, hdp, rfl⟩) (isPart_step ht hi h1 hlt hdp hp hM)
          refine ⟨R, hR, ?_⟩
          refine Ev.step (fun k => by rw [spec_l6Post.l0, if_pos c0, if_pos c1, er]) ?_
          refine Ev.bind hMe ?_
          simp only [if_pos c2, e3]
          exact hRe
        · have hpe : p = endI (dep l) l.length i := by omega
          exact ih p pre acc (by omega) h1 h2 hk hb hp
    obtain ⟨R, hR, hRe⟩ := loop (endI (dep l) l.length i - (i + 1)) (i + 1) [] [] (by omega) (by omega) (by omega) (by rw [List.nil_append]; rfl) (.inl rfl) (isPart_nil _ _ _)
    refine ⟨R, hR, ?_⟩
    refine Ev.step (fun k => by rw [spec_l6Post.f]) ?_
    have hw : -9223372036854775808 ≤ (i : Int) ∧ (i : Int) ≤ 9223372036854775807 := by omega
    refine Ev.bind (spec_KidsOf_ev l hl _ hw) ?_
    simp only [if_pos hat, Int.toNat_natCast]
    exact hRe

/-! spec_PostOrder -/
theorem spec_PostOrder_ev (l : List S56) (hl : l.length ≤ 1048576) : Ev (fun k => spec_PostOrder.f k l) (postT l) := by
  unfold spec_PostOrder.f postT
  refine Ev.bind (spec_TreeOk_ev l hl) ?_
  by_cases h : treeB (lab l) (dep l) l.length = true
  · rw [if_pos h]
    have ht := treeB_iff.1 h
    have hn := ht.1
    simp only [if_pos h]
    obtain ⟨R, hR, hRe⟩ := spec_l6Post_ev l hl ht _ 0 (by omega) (Nat.le_refl _)
    rw [postN_eq hR]
    exact Ev.bind hRe (Ev.now _)
  · rw [if_neg h]
    simp only [if_neg h]
    exact Ev.now _

/-! spec_RankOf -/
theorem spec_RankOf_l0 (p : List Int) (hp : p.length ≤ 1048576) (hr : ∀ x ∈ p, 0 ≤ x ∧ x < (p.length : Int)) (d : Nat) : ∀ (j : Nat) (acc : List Int), j + d = p.length → acc.length = p.length → Ev (fun k => spec_RankOf.l0 k p acc j) (X.setGo (p.drop j) j acc) := by
  induction d with
  | zero =>
    intro j acc hj ha
    rw [List.drop_of_length_le (by omega)]
    have c0 : ¬ ((j : Int) < (p.length : Int)) := by omega
    exact Ev.step (f := fun _ => some acc) (fun k => by simp only [spec_RankOf.l0]; rw [if_neg c0]) (Ev.now _)
  | succ d ih =>
    intro j acc hj ha
    have hjl : j < p.length := by omega
    have c0 : (j : Int) < (p.length : Int) := by omega
    have c1 : (0 : Int) ≤ (j : Int) := by omega
    have hx := hr _ (getD_in p j hjl)
    have c2 : (0 : Int) ≤ p.getD j 0 := hx.1
    have c3 : p.getD j 0 < (acc.length : Int) := by rw [ha]; exact hx.2
    have e4 : wrap64 ((j : Int) + 1) = ((j + 1 : Nat) : Int) := by rw [w64 (by omega) (by omega)]; rfl
    refine Ev.step (fun k => by simp only [spec_RankOf.l0]; rw [if_pos c0, if_pos c1, rdD, if_pos c2, if_pos c3, e4]) ?_
    rw [dropD p j hjl]
    simp only [X.setGo]
    have := ih (j + 1) (acc.set (p.getD j 0).toNat (j : Int)) (by omega) (by rw [List.length_set, ha])
    rw [show (((j + 1 : Nat) : Int)) = (j : Int) + 1 by omega] at this ⊢
    exact this
theorem spec_RankOf_ev (l : List S56) (hl : l.length ≤ 1048576) : Ev (fun k => spec_RankOf.f k l) (ranksT l) := by
  unfold spec_RankOf.f ranksT
  have hs := postT_small l hl
  refine Ev.bind (spec_PostOrder_ev l hl) ?_
  have c1 : (0 : Int) ≤ ((postT l).length : Int) := by omega
  have c2 : (postT l).length ≤ 35184372088832 := by omega
  simp only [if_pos c1, Int.toNat_natCast, if_pos c2]
  have := spec_RankOf_l0 (postT l) hs (fun x hx => postT_range l x hx) (postT l).length 0 (List.replicate (postT l).length 0) (by omega) (by rw [List.length_replicate])
  simpa only [List.drop_zero, Int.natCast_zero] using this

/-! spec_LeftLeaf -/
theorem first_leaf {lb dp : Nat → Int} {n i q : Nat} (ht : treeP lb dp n) (hi : i < n) (h1 : i ≤ q) (h2 : q < endI dp n i) (hd : dp q = dp i + (q - i : Nat)) (hs : q + 1 = endI dp n i ∨ dp (q + 1) ≠ dp q + 1) : rnk dp n q = (i : Int) - dp i := by
  have hei := endI_le dp n i hi
  have heq := endI_le dp n q (by omega)
  have e : endI dp n q = q + 1 := by
    by_cases c : endI dp n q = q + 1
    · exact c
    · exfalso
      have hin := endI_in (dep := dp) (n := n) (i := q) (k := q + 1) (by omega) (by omega)
      by_cases c2 : q + 1 < n
      · have hst := (dep_step ht (i := q + 1) (by omega) c2).2
        rw [Nat.add_sub_cancel] at hst
        rcases hs with hs | hs
        · by_cases c3 : i = q
          · subst c3; omega
          · have := end_mono hi (show i < q by omega) h2; omega
        · omega
      · omega
  unfold rnk
  rw [e, hd]
  omega
theorem spec_LeftLeaf_l1 (l : List S56) (hl : l.length ≤ 1048576) (acc : List Int) (j i : Nat) (R : List Int) (hjl : j < (postT l).length) (hi : (postT l).getD j 0 = (i : Int)) (hil : i < l.length) (ht : treeP (lab l) (dep l) l.length) (ha : acc.length = j)
    (hR : Ev (fun k => spec_LeftLeaf.l0 k l (acc ++ [(i : Int) - dep l i]) (postT l) (ranksT l) ((j + 1 : Nat) : Int)) R) (d : Nat) :
    ∀ q : Nat, q + d + 1 = endI (dep l) l.length i → i ≤ q → dep l q = dep l i + (q - i : Nat) → Ev (fun k => spec_LeftLeaf.l1 k l acc (postT l) (ranksT l) j q) R := by
  have hs := postT_small l hl
  have hn := postT_n l ht
  have hrl := ranksT_len l
  have hend := endI_le (dep l) l.length i hil
  have hat : atB (lab l) (dep l) l.length (i : Int) = true := atB_iff.2 ⟨ht, by omega, by omega⟩
  have c0 : (j : Int) < ((postT l).length : Int) := by omega
  have c1 : (0 : Int) ≤ (j : Int) := by omega
  have c4 : acc.length < 17592186044416 := by omega
  have e4 := Aside0.mk (show wrap64 ((j : Int) + 1) = ((j + 1 : Nat) : Int) by rw [w64 (by omega) (by omega)]; rfl)
  induction d with
  | zero =>
    intro q hq h1 hd
    have e5 := Aside0.mk (show wrap64 ((q : Int) + 1) = ((q + 1 : Nat) : Int) by rw [w64 (by omega) (by omega)]; rfl)
    have c2 : (0 : Int) ≤ (q : Int) := by omega
    have c3 : (q : Int) < ((ranksT l).length : Int) := by omega
    have c5 : ¬ (((q + 1 : Nat) : Int) < ((endI (dep l) l.length i : Nat) : Int)) := by omega
    have hr := first_leaf ht hil h1 (by omega) hd (.inl (by omega))
    have hg := ranksT_get l ht q (by omega)
    refine Ev.step (fun k => by simp only [spec_LeftLeaf.l1]; rw [if_pos c1, if_pos c0, rdD, hi]) ?_
    refine Ev.bind (spec_EndOf_ev l hl _) ?_
    simp only [if_pos hat, Int.toNat_natCast, e5.out, if_neg c5, if_pos c2, if_pos c3, if_pos c4, rdD, hg, hr, e4.out]
    exact hR
  | succ d ih =>
    intro q hq h1 hd
    have hdq := dep_range ht (i := q) (by omega)
    have e5 := Aside0.mk (show wrap64 ((q : Int) + 1) = ((q + 1 : Nat) : Int) by rw [w64 (by omega) (by omega)]; rfl)
    have e6 := Aside0.mk (show wrap64 (dep l q + 1) = dep l q + 1 from w64 (by omega) (by omega))
    have c2 : (0 : Int) ≤ (q : Int) := by omega
    have c3 : (q : Int) < ((ranksT l).length : Int) := by omega
    have c5 : ((q + 1 : Nat) : Int) < ((endI (dep l) l.length i : Nat) : Int) := by omega
    have c6 : (0 : Int) ≤ ((q + 1 : Nat) : Int) := by omega
    have c7 : ((q + 1 : Nat) : Int) < (l.length : Int) := by omega
    have c8 : (q : Int) < (l.length : Int) := by omega
    have hg := ranksT_get l ht q (by omega)
    refine Ev.step (fun k => by simp only [spec_LeftLeaf.l1]; rw [if_pos c1, if_pos c0, rdD, hi]) ?_
    refine Ev.bind (spec_EndOf_ev l hl _) ?_
    simp only [if_pos hat, Int.toNat_natCast, e5.out, if_pos c5, if_pos c6, if_pos c7, if_pos c2, if_pos c8, rdN, e6.out]
    by_cases h : dep l (q + 1) = dep l q + 1
    · simp only [if_pos h]
      exact ih (q + 1) (by omega) (by omega) (by rw [h, hd]; omega)
    · have hr := first_leaf ht hil h1 (by omega) hd (.inr h)
      simp only [if_neg h, if_pos c3, if_pos c4, rdD, hg, hr, e4.out]
      exact hR
theorem spec_LeftLeaf_l0 (l : List S56) (hl : l.length ≤ 1048576) (d : Nat) : ∀ (j : Nat) (acc : List Int), j + d = (postT l).length → acc.length = j → Ev (fun k => spec_LeftLeaf.l0 k l acc (postT l) (ranksT l) j) (acc ++ ((postT l).drop j).map fun x => x - dep l x.toNat) := by
  have hs := postT_small l hl
  induction d with
  | zero =>
    intro j acc hj ha
    rw [List.drop_of_length_le (by omega), List.map_nil, List.append_nil]
    have c0 : ¬ ((j : Int) < ((postT l).length : Int)) := by omega
    exact Ev.step (f := fun _ => some acc) (fun k => by simp only [spec_LeftLeaf.l0]; rw [if_neg c0]) (Ev.now _)
  | succ d ih =>
    intro j acc hj ha
    have hjl : j < (postT l).length := by omega
    obtain ⟨ht, i, hi, hil⟩ := postT_node l _ (getD_in (postT l) j hjl)
    have hend := endI_le (dep l) l.length i hil
    have c0 : (j : Int) < ((postT l).length : Int) := by omega
    have c1 : (0 : Int) ≤ (j : Int) := by omega
    refine Ev.step (fun k => by simp only [spec_LeftLeaf.l0]; rw [if_pos c0, if_pos c1, rdD, hi]) ?_
    have hR := ih (j + 1) (acc ++ [(i : Int) - dep l i]) (by omega) (by simp; omega)
    have e : acc ++ List.map (fun x => x - dep l x.toNat) (List.drop j (postT l)) = (acc ++ [(i : Int) - dep l i]) ++ List.map (fun x => x - dep l x.toNat) (List.drop (j + 1) (postT l)) := by
      rw [dropD (postT l) j hjl, List.map_cons, hi, Int.toNat_natCast]
      simp only [List.append_assoc, List.cons_append, List.nil_append]
    rw [e]
    exact spec_LeftLeaf_l1 l hl acc j i _ hjl hi hil ht ha hR (endI (dep l) l.length i - i - 1) i (by omega) (Nat.le_refl _) (by simp)
theorem spec_LeftLeaf_ev (l : List S56) (hl : l.length ≤ 1048576) : Ev (fun k => spec_LeftLeaf.f k l) (leafT l) := by
  unfold spec_LeftLeaf.f leafT
  refine Ev.bind (spec_PostOrder_ev l hl) (Ev.bind (spec_RankOf_ev l hl) ?_)
  have := spec_LeftLeaf_l0 l hl (postT l).length 0 [] (by omega) (by simp)
  simpa only [List.drop_zero, Int.natCast_zero, List.nil_append] using this

/-! spec_KeyRoots -/
theorem spec_KeyRoots_l1 (f : List Int) (hf : f.length ≤ 1048576) (acc : List Int) (i : Nat) (hi : i < f.length) (ha : acc.length ≤ i) (R : List Int) (d : Nat) :
    ∀ (j : Nat) (b : Bool), j + d = f.length → Ev (fun k => spec_KeyRoots.l0 k (if (b && !decide (f.getD i 0 ∈ f.drop j)) = true then acc ++ [(i : Int)] else acc) f ((i + 1 : Nat) : Int)) R → Ev (fun k => spec_KeyRoots.l1 k acc f i b j) R := by
  have e3 : wrap64 ((i : Int) + 1) = ((i + 1 : Nat) : Int) := by rw [w64 (by omega) (by omega)]; rfl
  have c4 : acc.length < 17592186044416 := by omega
  have c5 : (i : Int) < (f.length : Int) := by omega
  have c6 : (0 : Int) ≤ (i : Int) := by omega
  induction d with
  | zero =>
    intro j b hj hR
    have c0 : ¬ ((j : Int) < (f.length : Int)) := by omega
    rw [List.drop_of_length_le (by omega)] at hR
    simp only [List.not_mem_nil, decide_false, Bool.not_false, Bool.and_true] at hR
    refine Ev.step (fun k => by simp only [spec_KeyRoots.l1]; rw [if_neg c0, e3]) ?_
    cases b with
    | true => simp only [if_true, if_pos c4] at hR ⊢; exact hR
    | false => simp only [Bool.false_eq_true, if_false] at hR ⊢; exact hR
  | succ d ih =>
    intro j b hj hR
    have hjl : j < f.length := by omega
    have c0 : (j : Int) < (f.length : Int) := by omega
    have c1 : (0 : Int) ≤ (j : Int) := by omega
    have e4 : wrap64 ((j : Int) + 1) = ((j + 1 : Nat) : Int) := by rw [w64 (by omega) (by omega)]; rfl
    cases b with
    | true =>
      refine Ev.step (fun k => by simp only [spec_KeyRoots.l1]; rw [if_pos c0, if_pos trivial, if_pos c1, if_pos c6, if_pos c5, e4, rdD, rdD]) ?_
      refine ih (j + 1) _ (by omega) ?_
      have e : ((f.getD j 0 != f.getD i 0) && !decide (f.getD i 0 ∈ f.drop (j + 1))) = (true && !decide (f.getD i 0 ∈ f.drop j)) := by
        rw [dropD f j hjl]
        generalize f.getD i 0 = u
        generalize f.getD j 0 = v
        by_cases h : u = v
        · simp [h]
        · have h' : ¬ v = u := fun c => h c.symm
          simp [h, h']
      rw [e]
      exact hR
    | false =>
      refine Ev.step (fun k => by simp only [spec_KeyRoots.l1]; rw [if_pos c0, if_neg Bool.false_ne_true, e4]) ?_
      refine ih (j + 1) _ (by omega) ?_
      simpa only [Bool.false_and] using hR
theorem spec_KeyRoots_l0 (f : List Int) (hf : f.length ≤ 1048576) (d : Nat) : ∀ (j : Nat) (acc : List Int), j + d = f.length → acc.length ≤ j → Ev (fun k => spec_KeyRoots.l0 k acc f j) (acc ++ X.rootGo f d j) := by
  induction d with
  | zero =>
    intro j acc hj ha
    have c0 : ¬ ((j : Int) < (f.length : Int)) := by omega
    simp only [X.rootGo, List.append_nil]
    exact Ev.step (f := fun _ => some acc) (fun k => by simp only [spec_KeyRoots.l0]; rw [if_neg c0]) (Ev.now _)
  | succ d ih =>
    intro j acc hj ha
    have c0 : (j : Int) < (f.length : Int) := by omega
    have e4 : wrap64 ((j : Int) + 1) = ((j + 1 : Nat) : Int) := by rw [w64 (by omega) (by omega)]; rfl
    refine Ev.step (fun k => by simp only [spec_KeyRoots.l0]; rw [if_pos c0, e4]) ?_
    refine spec_KeyRoots_l1 f hf acc j (by omega) ha _ d (j + 1) true (by omega) ?_
    have e : (true && !decide (f.getD j 0 ∈ f.drop (j + 1))) = X.lastB f j := by unfold X.lastB; rw [Bool.true_and]
    rw [e]
    simp only [X.rootGo]
    by_cases h : X.lastB f j = true
    · simp only [if_pos h]
      have := ih (j + 1) (acc ++ [(j : Int)]) (by omega) (by simp; omega)
      simpa only [List.append_assoc, List.cons_append, List.nil_append] using this
    · simp only [if_neg h]
      exact ih (j + 1) acc (by omega) (by omega)
theorem spec_KeyRoots_ev (l : List S56) (hl : l.length ≤ 1048576) : Ev (fun k => spec_KeyRoots.f k l) (rootsT l) := by
  unfold spec_KeyRoots.f rootsT
  refine Ev.bind (spec_LeftLeaf_ev l hl) ?_
  have := spec_KeyRoots_l0 (leafT l) (leafT_small l hl) (leafT l).length 0 [] (by omega) (by simp)
  simpa only [Int.natCast_zero, List.nil_append] using this

/-! spec_CellsIn -/
theorem spec_CellsIn_l1 (a b : List S56) (i : Nat) (hi : i < (rootsT a).length) (R : Int) (x : Int) (hx : -331776 ≤ x ∧ x ≤ 331776 + 331776) (d : Nat)
    (hR : Ev (fun k => spec_CellsIn.l0 k (x + termT a ((rootsT a).getD i 0) * cellsT b) (rootsT a) (rootsT b) (leafT a) (leafT b) ((i + 1 : Nat) : Int)) R) : ∀ j : Nat, j + d = (rootsT b).length →
    Ev (fun k => spec_CellsIn.l1 k (x + termT a ((rootsT a).getD i 0) * X.sumL (((rootsT b).take j).map (termT b))) (rootsT a) (rootsT b) (leafT a) (leafT b) i j) R := by
  have hla := rootsT_len a
  have hlb := rootsT_len b
  have hia := getD_in (rootsT a) i hi
  have hra := rootsT_range a _ hia
  have hta := termT_range a _ hia
  have e3 : wrap64 ((i : Int) + 1) = ((i + 1 : Nat) : Int) := by rw [w64 (by omega) (by omega)]; rfl
  have c5 : (i : Int) < ((rootsT a).length : Int) := by omega
  have c6 : (0 : Int) ≤ (i : Int) := by omega
  have c7 := hra.1
  have c8 := hra.2
  induction d with
  | zero =>
    intro j hj
    have c0 : ¬ ((j : Int) < ((rootsT b).length : Int)) := by omega
    have e : (rootsT b).take j = rootsT b := List.take_of_length_le (by omega)
    rw [e]
    refine Ev.step (fun k => by simp only [spec_CellsIn.l1]; rw [if_neg c0, e3]) ?_
    exact hR
  | succ d ih =>
    intro j hj
    have hjl : j < (rootsT b).length := by omega
    have hin := getD_in (rootsT b) j hjl
    have hr := rootsT_range b _ hin
    have ht := termT_range b _ hin
    have hp := part_range b ((rootsT b).take j) (fun x h => List.mem_of_mem_take h) (by rw [List.length_take]; omega)
    have c0 : (j : Int) < ((rootsT b).length : Int) := by omega
    have c1 : (0 : Int) ≤ (j : Int) := by omega
    have c2 := hr.1
    have c3 := hr.2
    have e4 : wrap64 ((j : Int) + 1) = ((j + 1 : Nat) : Int) := by rw [w64 (by omega) (by omega)]; rfl
    have hm1 := mul_range (a := termT a ((rootsT a).getD i 0)) (b := termT b ((rootsT b).getD j 0)) (by omega) (by omega)
    have hm2 := mul_range (a := termT a ((rootsT a).getD i 0)) (b := X.sumL (((rootsT b).take j).map (termT b))) (by omega) hp
    have e6 : wrap64 (termT a ((rootsT a).getD i 0) * termT b ((rootsT b).getD j 0)) = termT a ((rootsT a).getD i 0) * termT b ((rootsT b).getD j 0) := w64 (by omega) (by omega)
    have e5 : wrap64 (x + termT a ((rootsT a).getD i 0) * X.sumL (((rootsT b).take j).map (termT b)) + termT a ((rootsT a).getD i 0) * termT b ((rootsT b).getD j 0)) = x + termT a ((rootsT a).getD i 0) * X.sumL (((rootsT b).take (j + 1)).map (termT b)) := by
      rw [take_roots b j hjl, Int.mul_add, w64 (by omega) (by omega)]; omega
    refine Ev.step (fun k => by simp only [spec_CellsIn.l1]; rw [if_pos c0, if_pos c6, if_pos c5, rdD, rdD, if_pos c7, if_pos c8, if_pos c1, if_pos c2, if_pos c3, term_wrap a _ hia, term_wrap b _ hin, e6, e5, e4]) ?_
    exact ih (j + 1) (by omega)
theorem spec_CellsIn_l0 (a b : List S56) (d : Nat) : ∀ i : Nat, i + d = (rootsT a).length → Ev (fun k => spec_CellsIn.l0 k (X.sumL (((rootsT a).take i).map (termT a)) * cellsT b) (rootsT a) (rootsT b) (leafT a) (leafT b) i) (cellsT a * cellsT b) := by
  have hcb := cellsT_range b
  induction d with
  | zero =>
    intro i hi
    have c0 : ¬ ((i : Int) < ((rootsT a).length : Int)) := by omega
    have e : (rootsT a).take i = rootsT a := List.take_of_length_le (by omega)
    rw [e]
    refine Ev.step (fun k => by simp only [spec_CellsIn.l0]; rw [if_neg c0]) ?_
    exact Ev.now _
  | succ d ih =>
    intro i hi
    have hil : i < (rootsT a).length := by omega
    have hp := part_range a ((rootsT a).take i) (fun x h => List.mem_of_mem_take h) (by rw [List.length_take]; have := rootsT_len a; omega)
    have hm := mul_range hp hcb
    have c0 : (i : Int) < ((rootsT a).length : Int) := by omega
    have hR := ih (i + 1) (by omega)
    rw [take_roots a i hil, Int.add_mul] at hR
    have := spec_CellsIn_l1 a b i hil _ _ (by omega) (rootsT b).length hR 0 (by omega)
    simp only [List.take_zero, List.map_nil, X.sumL, Int.natCast_zero, Int.mul_zero, Int.add_zero] at this
    refine Ev.step (fun k => by simp only [spec_CellsIn.l0]; rw [if_pos c0]) ?_
    exact this
theorem spec_CellsIn_ev (a b : List S56) (ha : a.length ≤ 1048576) (hb : b.length ≤ 1048576) : Ev (fun k => spec_CellsIn.f k a b) (cellsT a * cellsT b) := by
  unfold spec_CellsIn.f
  refine Ev.bind (spec_KeyRoots_ev a ha) (Ev.bind (spec_KeyRoots_ev b hb) (Ev.bind (spec_LeftLeaf_ev a ha) (Ev.bind (spec_LeftLeaf_ev b hb) ?_)))
  have := spec_CellsIn_l0 a b (rootsT a).length 0 (by omega)
  simpa only [List.take_zero, List.map_nil, X.sumL, Int.natCast_zero, Int.zero_mul] using this

/-! laws_toNodeS -/
def conv (x : S58) : S56 := ⟨x.f0, x.f1⟩
theorem set_grow (xs : List S56) (i : Nat) (x : S56) (m : Nat) (h : xs.length = i) : (xs ++ List.replicate (m + 1) z56).set i x = (xs ++ [x]) ++ List.replicate m z56 := by
  rw [List.set_append_right _ _ (by omega), List.replicate_succ]
  simp [h]
theorem toNodeS_l0 (l : List S58) (hl : l.length ≤ 1048576) (d : Nat) : ∀ i : Nat, i + d = l.length → Ev (fun k => laws_toNodeS.l0 k l ((l.take i).map conv ++ List.replicate d z56) i) (l.map conv) := by
  induction d with
  | zero =>
    intro i hi
    refine Ev.step (fun k => by simp only [laws_toNodeS.l0]; rw [if_neg (by omega)]) ?_
    have e : i = l.length := by omega
    subst e
    exact evSome (by simp)
  | succ d ih =>
    intro i hi
    have c3 : (i : Int) < ((((l.take i).map conv ++ List.replicate (d + 1) z56).length : Nat) : Int) := by simp; omega
    have e4 : wrap64 ((i : Int) + 1) = ((i + 1 : Nat) : Int) := by rw [w64 (by omega) (by omega)]; rfl
    refine Ev.step (fun k => by simp only [laws_toNodeS.l0]; rw [if_pos (by omega), if_pos (by omega)]) ?_
    simp only [laws_toNode.f, Option.bind_some, if_pos c3, e4, Int.toNat_natCast]
    rw [set_grow _ _ _ _ (by simp; omega)]
    have := ih (i + 1) (by omega)
    have hil : i < l.length := by omega
    rw [List.take_succ_eq_append_getElem hil, List.map_append] at this
    have er : rd_T58 l (i : Int) = l[i] := by unfold rd_T58; simp [List.getD_eq_getElem?_getD, List.getElem?_eq_getElem hil]
    rw [er]
    exact this
theorem toNodeS_ev (l : List S58) (hl : l.length ≤ 1048576) : Ev (fun k => laws_toNodeS.f k l) (l.map conv) := by
  unfold laws_toNodeS.f
  have := toNodeS_l0 l hl l.length 0 (by omega)
  simp only [Int.toNat_natCast, if_pos (show (0 : Int) ≤ (l.length : Int) by omega), if_pos (show l.length ≤ 17592186044416 by omega)]
  simpa using this

/-! impl_within -/
theorem impl_within_eq (a b c : Int) : impl_within.f a b c = some (decide (b ≤ a ∧ a ≤ c)) := by
  unfold impl_within.f
  by_cases h : b ≤ a
  · rw [if_pos h]; simp [h]
  · rw [if_neg h]; simp [h]

/-! impl_LabelOk -/
theorem impl_LabelOk_eq (a : Int) : impl_LabelOk.f a = some (decide (0 ≤ a ∧ a ≤ 5)) := by
  unfold impl_LabelOk.f; simp only [impl_within_eq, Option.bind_some]

/-! impl_depthOk -/
theorem impl_depthOk_eq (l : List S56) (i : Nat) (hi : i < l.length) (hl : l.length ≤ 1048576) (hp : 0 < i → -1 ≤ dep l (i - 1) ∧ dep l (i - 1) ≤ 12) :
    impl_depthOk.f l (i : Int) = some (decide ((i = 0 → dep l i = 0) ∧ (0 < i → 1 ≤ dep l i ∧ dep l i ≤ dep l (i - 1) + 1))) := by
  unfold impl_depthOk.f
  by_cases h0 : i = 0
  · subst h0
    rw [if_pos (show ((0 : Nat) : Int) = 0 by rfl), if_pos (by omega)]
    have : rd_T56 l 0 = l.getD 0 z56 := rdN l 0
    rw [this]
    congr 1
    by_cases hz : dep l 0 = 0
    · rw [decide_eq_true ⟨fun _ => hz, fun h => by omega⟩]; show (dep l 0 == 0) = true; rw [hz]; rfl
    · rw [decide_eq_false (fun h => hz (h.1 rfl))]; show (dep l 0 == 0) = false; exact beq_eq_false_iff_ne.mpr hz
  · have hp := hp (by omega)
    have c3 : ¬ ((i : Int) = 0) := by omega
    have c4 : (0 : Int) ≤ (i : Int) := by omega
    have c5 : (i : Int) < (l.length : Int) := by omega
    have c6 : (0 : Int) ≤ ((i - 1 : Nat) : Int) := by omega
    have c7 : ((i - 1 : Nat) : Int) < (l.length : Int) := by omega
    have e3 : wrap64 ((i : Int) - 1) = ((i - 1 : Nat) : Int) := by rw [w64 (by omega) (by omega)]; omega
    rw [if_neg c3, if_pos c4, if_pos c5, e3, if_pos c6, if_pos c7, rdN, rdN]
    have e5 : wrap64 (dep l (i - 1) + 1) = dep l (i - 1) + 1 := w64 (by omega) (by omega)
    rw [e5, impl_within_eq]
    simp only [Option.bind_some]
    congr 1
    by_cases hz : 1 ≤ dep l i ∧ dep l i ≤ dep l (i - 1) + 1
    · rw [decide_eq_true hz, decide_eq_true ⟨fun h => absurd h h0, fun _ => hz⟩]
    · rw [decide_eq_false hz, decide_eq_false (fun h => hz (h.2 (by omega)))]

/-! impl_TreeOk -/
theorem impl_TreeOk_l0 (l : List S56) (hl : l.length ≤ 1048576) (hlen : 1 ≤ l.length ∧ l.length ≤ 24) (d : Nat) : ∀ i : Nat, i + d = l.length → (∀ j, j < i → nodeOk (lab l) (dep l) j) → Ev (fun k => impl_TreeOk.l0 k l l l.length i) (treeB (lab l) (dep l) l.length) := by
  induction d with
  | zero =>
    intro i hi hall
    refine Ev.step (fun k => by simp only [impl_TreeOk.l0]; rw [if_neg (by omega)]) ?_
    refine evSome ?_
    have e : i = l.length := by omega
    rw [treeB_all (by rw [← e]; exact hall), decide_eq_true hlen]
  | succ d ih =>
    intro i hi hall
    have hil : i < l.length := by omega
    have c1 : (i : Int) < (l.length : Int) := by omega
    have c2 : (0 : Int) ≤ (i : Int) := by omega
    refine Ev.step (fun k => by simp only [impl_TreeOk.l0]; rw [if_pos c1, if_pos c2, if_pos c1]) ?_
    have hd := impl_depthOk_eq l i hil hl (fun h0 => by
      have hp := hall (i - 1) (by omega)
      have := hp.2.2.1
      exact ⟨by omega, hp.2.2.2.1⟩)
    have e4 : wrap64 ((i : Int) + 1) = ((i + 1 : Nat) : Int) := by rw [w64 (by omega) (by omega)]; rfl
    simp only [impl_LabelOk_eq, impl_within_eq, hd, Option.bind_some, rdN, decide_eq_true_eq, e4]
    by_cases h1 : 0 ≤ lab l i ∧ lab l i ≤ 5
    · simp only [if_pos h1]
      by_cases h2 : 0 ≤ dep l i ∧ dep l i ≤ 12
      · simp only [if_pos h2]
        by_cases h3 : (i = 0 → dep l i = 0) ∧ (0 < i → 1 ≤ dep l i ∧ dep l i ≤ dep l (i - 1) + 1)
        · simp only [if_pos h3]
          refine ih (i + 1) (by omega) (fun j hj => ?_)
          by_cases hji : j < i
          · exact hall j hji
          · have : j = i := by omega
            subst this; exact ⟨h1.1, h1.2, h2.1, h2.2, h3.1, h3.2⟩
        · simp only [if_neg h3]
          exact evSome (treeB_no hil (fun h => h3 ⟨h.2.2.2.2.1, h.2.2.2.2.2⟩)).symm
      · simp only [if_neg h2]
        exact evSome (treeB_no hil (fun h => h2 ⟨h.2.2.1, h.2.2.2.1⟩)).symm
    · simp only [if_neg h1]
      exact evSome (treeB_no hil (fun h => h1 ⟨h.1, h.2.1⟩)).symm
theorem impl_TreeOk_ev (l : List S56) (hl : l.length ≤ 1048576) : Ev (fun k => impl_TreeOk.f k l) (treeB (lab l) (dep l) l.length) := by
  unfold impl_TreeOk.f
  simp only [impl_within_eq, Option.bind_some, decide_eq_true_eq]
  by_cases h : (1 : Int) ≤ (l.length : Int) ∧ (l.length : Int) ≤ 24
  · simp only [if_pos h]
    exact impl_TreeOk_l0 l hl (by omega) l.length 0 (by omega) (fun j hj => by omega)
  · simp only [if_neg h]
    exact evSome (treeB_len (by omega)).symm

/-! impl_endOf -/
theorem impl_endOf_l0 (l : List S56) (hl : l.length ≤ 1048576) (i : Nat) (hi : i < l.length) (d : Nat) : ∀ j : Nat, j + d = l.length → Ev (fun k => impl_endOf.l0 k l i j) ((endGo (dep l) (dep l i) d j : Nat) : Int) := by
  induction d with
  | zero =>
    intro j hj
    exact Ev.step (f := fun _ => some ((j : Nat) : Int)) (fun k => by simp only [impl_endOf.l0]; rw [if_neg (by omega)]) (Ev.now _)
  | succ d ih =>
    intro j hj
    have c1 : (j : Int) < (l.length : Int) := by omega
    have c2 : (0 : Int) ≤ (j : Int) := by omega
    have c3 : (0 : Int) ≤ (i : Int) := by omega
    have c4 : (i : Int) < (l.length : Int) := by omega
    have e4 : wrap64 ((j : Int) + 1) = ((j + 1 : Nat) : Int) := by rw [w64 (by omega) (by omega)]; rfl
    refine Ev.step (fun k => by simp only [impl_endOf.l0]; rw [if_pos c1, if_pos c2, if_pos c3, if_pos c4, e4, rdN, rdN]) ?_
    simp only [endGo]
    by_cases h : dep l j > dep l i
    · simp only [if_pos h]; exact ih (j + 1) (by omega)
    · simp only [if_neg h]; exact Ev.now _

theorem impl_endOf_ev (l : List S56) (hl : l.length ≤ 1048576) (i : Nat) (hi : i < l.length) : Ev (fun k => impl_endOf.f k l i) ((endI (dep l) l.length i : Nat) : Int) := by
  unfold impl_endOf.f
  have e4 : wrap64 ((i : Int) + 1) = ((i + 1 : Nat) : Int) := by rw [w64 (by omega) (by omega)]; rfl
  simp only [e4]
  exact impl_endOf_l0 l hl i hi (l.length - (i + 1)) (i + 1) (by omega)

/-! impl_PostOrder -/
theorem ends_ev (l : List S56) (hl : l.length ≤ 1048576) : ∀ m : Nat, m ≤ l.length → ∃ K, ∀ k, K ≤ k → ∀ i : Nat, i < m → impl_endOf.f k l (i : Int) = some ((endI (dep l) l.length i : Nat) : Int) := by
  intro m
  induction m with
  | zero => intro _; exact ⟨0, fun k _ i hi => by omega⟩
  | succ m ih =>
    intro hm
    obtain ⟨K, hK⟩ := ih (by omega)
    obtain ⟨K2, hK2⟩ := impl_endOf_ev l hl m (by omega)
    refine ⟨max K K2, fun k hk i hi => ?_⟩
    by_cases c : i = m
    · subst c; exact hK2 k (by omega)
    · exact hK k (by omega) i (by omega)
theorem impl_PostOrder_ev (l : List S56) (hl : l.length ≤ 1048576) : Ev (fun k => impl_PostOrder.f k l) (postT l) := by
  unfold impl_PostOrder.f postT
  refine Ev.bind (impl_TreeOk_ev l hl) ?_
  by_cases h : treeB (lab l) (dep l) l.length = true
  · rw [if_pos h]
    have ht := treeB_iff.1 h
    have hn := ht.1
    simp only [if_pos h]
    rw [postN_eq (V.sorted_post ht)]
    obtain ⟨K, hK⟩ := ends_ev l hl l.length (Nat.le_refl _)
    refine ⟨K, fun k hk => ?_⟩
    have hE : ∀ i, i < l.length → impl_PostOrder.E k l i = V.endE (dep l) l.length i := by
      intro i hi
      unfold impl_PostOrder.E V.endE
      rw [hK k hk i hi]
      rfl
    have hc : S.cmpE (impl_PostOrder.E k l) l.length = S.cmpE (V.endE (dep l) l.length) l.length := by
      funext x y
      unfold S.cmpE
      rw [hE _ (by omega), hE _ (by omega)]
    have hok : impl_PostOrder.ok k l := by
      refine ⟨by omega, by omega, fun i hi => by rw [hK k hk i hi]; rfl, ?_⟩
      have hsw := S.swo_to _ _ (by omega) (V.swo_rank ht)
      unfold S.swoF at hsw ⊢
      rw [hc]
      exact hsw
    simp only [if_pos hok]
    unfold S.sorted
    rw [hc]
  · rw [if_neg h]
    simp only [if_neg h]
    exact Ev.now _

/-! impl_RankOf -/
theorem impl_RankOf_l0 (p : List Int) (hp : p.length ≤ 1048576) (hr : ∀ x ∈ p, 0 ≤ x ∧ x < (p.length : Int)) (d : Nat) : ∀ (j : Nat) (acc : List Int), j + d = p.length → acc.length = p.length → Ev (fun k => impl_RankOf.l0 k acc p p.length j) (X.setGo (p.drop j) j acc) := by
  induction d with
  | zero =>
    intro j acc hj ha
    rw [List.drop_of_length_le (by omega)]
    have c0 : ¬ ((j : Int) < (p.length : Int)) := by omega
    exact Ev.step (f := fun _ => some acc) (fun k => by simp only [impl_RankOf.l0]; rw [if_neg c0]) (Ev.now _)
  | succ d ih =>
    intro j acc hj ha
    have hjl : j < p.length := by omega
    have c0 : (j : Int) < (p.length : Int) := by omega
    have c1 : (0 : Int) ≤ (j : Int) := by omega
    have hx := hr _ (getD_in p j hjl)
    have c2 : (0 : Int) ≤ p.getD j 0 := hx.1
    have c3 : p.getD j 0 < (acc.length : Int) := by rw [ha]; exact hx.2
    have e4 : wrap64 ((j : Int) + 1) = ((j + 1 : Nat) : Int) := by rw [w64 (by omega) (by omega)]; rfl
    refine Ev.step (fun k => by simp only [impl_RankOf.l0]; rw [if_pos c0, if_pos c1, if_pos c0, rdD, if_pos c2, if_pos c3, e4]) ?_
    rw [dropD p j hjl]
    simp only [X.setGo]
    have := ih (j + 1) (acc.set (p.getD j 0).toNat (j : Int)) (by omega) (by rw [List.length_set, ha])
    rw [show (((j + 1 : Nat) : Int)) = (j : Int) + 1 by omega] at this ⊢
    exact this
theorem impl_RankOf_ev (l : List S56) (hl : l.length ≤ 1048576) : Ev (fun k => impl_RankOf.f k l) (ranksT l) := by
  unfold impl_RankOf.f ranksT
  have hs := postT_small l hl
  refine Ev.bind (impl_PostOrder_ev l hl) ?_
  have c1 : (0 : Int) ≤ ((postT l).length : Int) := by omega
  have c2 : (postT l).length ≤ 35184372088832 := by omega
  simp only [if_pos c1, Int.toNat_natCast, if_pos c2]
  have := impl_RankOf_l0 (postT l) hs (fun x hx => postT_range l x hx) (postT l).length 0 (List.replicate (postT l).length 0) (by omega) (by rw [List.length_replicate])
  simpa only [List.drop_zero, Int.natCast_zero] using this

/-! impl_LeftLeaf -/
theorem impl_LeftLeaf_l0 (l : List S56) (hl : l.length ≤ 1048576) (d : Nat) : ∀ (j : Nat) (acc : List Int), j + d = (postT l).length → acc.length = j → Ev (fun k => impl_LeftLeaf.l0 k l acc (ranksT l) (postT l) (postT l).length j) (acc ++ ((postT l).drop j).map fun x => x - dep l x.toNat) := by
  have hs := postT_small l hl
  induction d with
  | zero =>
    intro j acc hj ha
    rw [List.drop_of_length_le (by omega), List.map_nil, List.append_nil]
    have c0 : ¬ ((j : Int) < ((postT l).length : Int)) := by omega
    exact Ev.step (f := fun _ => some acc) (fun k => by simp only [impl_LeftLeaf.l0]; rw [if_neg c0]) (Ev.now _)
  | succ d ih =>
    intro j acc hj ha
    have hjl : j < (postT l).length := by omega
    obtain ⟨ht, i, hi, hil⟩ := postT_node l _ (getD_in (postT l) j hjl)
    have hn := postT_n l ht
    have hrl := ranksT_len l
    have hend := endI_le (dep l) l.length i hil
    have hdr := dep_range ht hil
    have c0 : (j : Int) < ((postT l).length : Int) := by omega
    have c1 : (0 : Int) ≤ (j : Int) := by omega
    have c2 : (0 : Int) ≤ (i : Int) := by omega
    have c3 : (i : Int) < ((ranksT l).length : Int) := by omega
    have c4 : acc.length < 17592186044416 := by omega
    have e4 : wrap64 ((j : Int) + 1) = ((j + 1 : Nat) : Int) := by rw [w64 (by omega) (by omega)]; rfl
    have e5 : wrap64 (((endI (dep l) l.length i : Nat) : Int) - (i : Int)) = ((endI (dep l) l.length i : Nat) : Int) - (i : Int) := w64 (by omega) (by omega)
    have e6 : wrap64 (((endI (dep l) l.length i : Nat) : Int) - (i : Int) - 1) = ((endI (dep l) l.length i : Nat) : Int) - (i : Int) - 1 := w64 (by omega) (by omega)
    have e7 : wrap64 (rnk (dep l) l.length i - (((endI (dep l) l.length i : Nat) : Int) - (i : Int) - 1)) = (i : Int) - dep l i := by unfold rnk; rw [w64 (by omega) (by omega)]; omega
    refine Ev.step (fun k => by simp only [impl_LeftLeaf.l0]; rw [if_pos c0, if_pos c1, if_pos c0, rdD, hi, if_pos c2, if_pos c3]) ?_
    refine Ev.bind (impl_endOf_ev l hl i hil) ?_
    simp only [if_pos c4, e5, e6, rdD, ranksT_get l ht i hil, e7, e4]
    have := ih (j + 1) (acc ++ [(i : Int) - dep l i]) (by omega) (by simp; omega)
    rw [dropD (postT l) j hjl, List.map_cons, hi, Int.toNat_natCast]
    simpa only [List.append_assoc, List.cons_append, List.nil_append] using this
theorem impl_LeftLeaf_ev (l : List S56) (hl : l.length ≤ 1048576) : Ev (fun k => impl_LeftLeaf.f k l) (leafT l) := by
  unfold impl_LeftLeaf.f leafT
  refine Ev.bind (impl_RankOf_ev l hl) (Ev.bind (impl_PostOrder_ev l hl) ?_)
  have := impl_LeftLeaf_l0 l hl (postT l).length 0 [] (by omega) (by simp)
  simpa only [List.drop_zero, Int.natCast_zero, List.nil_append] using this

/-! slices_Index_int_int -/
theorem sIndex_l0 (x : Int) (xs : List Int) (hx : xs.length ≤ 1048576) (d : Nat) : ∀ j : Nat, j + d = xs.length → Ev (fun k => slices_Index_int_int.l0 k xs x xs.length j) (idxGo x (xs.drop j) j) := by
  induction d with
  | zero =>
    intro j hj
    rw [List.drop_of_length_le (by omega)]
    exact Ev.step (f := fun _ => some (-1)) (fun k => by simp only [slices_Index_int_int.l0]; rw [if_neg (by omega)]) (Ev.now _)
  | succ d ih =>
    intro j hj
    have hjl : j < xs.length := by omega
    have c1 : (j : Int) < (xs.length : Int) := by omega
    have c2 : (0 : Int) ≤ (j : Int) := by omega
    have e4 : wrap64 ((j : Int) + 1) = ((j + 1 : Nat) : Int) := by rw [w64 (by omega) (by omega)]; rfl
    have er : rd xs (j : Int) = xs[j] := by unfold rd; simp [List.getD_eq_getElem?_getD, List.getElem?_eq_getElem hjl]
    rw [List.drop_eq_getElem_cons hjl]
    refine Ev.step (fun k => by simp only [slices_Index_int_int.l0]; rw [if_pos c1, if_pos c2, if_pos c1, e4, er]) ?_
    simp only [idxGo]
    by_cases h : x = xs[j]
    · simp only [if_pos h]; exact Ev.now _
    · simp only [if_neg h]; exact ih (j + 1) (by omega)
theorem sIndex_ev (x : Int) (xs : List Int) (hx : xs.length ≤ 1048576) : Ev (fun k => slices_Index_int_int.f k xs x) (idxGo x xs 0) := by
  unfold slices_Index_int_int.f
  have := sIndex_l0 x xs hx _ 0 (Nat.zero_add _)
  simpa using this

/-! slices_Contains_int_int -/
theorem contains_ev (x : Int) (xs : List Int) (hx : xs.length ≤ 1048576) : Ev (fun k => slices_Contains_int_int.f k xs x) (decide (x ∈ xs)) := by
  unfold slices_Contains_int_int.f
  refine Ev.bind (sIndex_ev x xs hx) ?_
  exact evSome (X.idxGo_mem x xs 0)

/-! impl_KeyRoots -/
theorem impl_KeyRoots_l0 (f : List Int) (hf : f.length ≤ 1048576) (d : Nat) : ∀ (j : Nat) (acc : List Int), j + d = f.length → acc.length ≤ j → Ev (fun k => impl_KeyRoots.l0 k acc f f f.length j) (acc ++ X.rootGo f d j) := by
  induction d with
  | zero =>
    intro j acc hj ha
    have c0 : ¬ ((j : Int) < (f.length : Int)) := by omega
    simp only [X.rootGo, List.append_nil]
    exact Ev.step (f := fun _ => some acc) (fun k => by simp only [impl_KeyRoots.l0]; rw [if_neg c0]) (Ev.now _)
  | succ d ih =>
    intro j acc hj ha
    have c0 : (j : Int) < (f.length : Int) := by omega
    have c1 : (0 : Int) ≤ (j : Int) := by omega
    have c2 : (0 : Int) ≤ ((j + 1 : Nat) : Int) := by omega
    have c3 : ((j + 1 : Nat) : Int) ≤ (f.length : Int) := by omega
    have c4 : acc.length < 17592186044416 := by omega
    have e4 : wrap64 ((j : Int) + 1) = ((j + 1 : Nat) : Int) := by rw [w64 (by omega) (by omega)]; rfl
    refine Ev.step (fun k => by simp only [impl_KeyRoots.l0]; rw [if_pos c0, if_pos c1, if_pos c0, e4, if_pos c2, if_pos c3, Int.toNat_natCast, rdD]) ?_
    refine Ev.bind (contains_ev _ _ (by rw [List.length_drop]; omega)) ?_
    simp only [X.rootGo, X.lastB]
    by_cases h : f.getD j 0 ∈ f.drop (j + 1)
    · have h2 : decide (f.getD j 0 ∈ f.drop (j + 1)) = true := decide_eq_true h
      simp only [h2, if_true, Bool.not_true, Bool.false_eq_true, if_false]
      exact ih (j + 1) acc (by omega) (by omega)
    · have h2 : decide (f.getD j 0 ∈ f.drop (j + 1)) = false := decide_eq_false h
      simp only [h2, Bool.not_false, Bool.false_eq_true, if_false, if_true, if_pos c4]
      have := ih (j + 1) (acc ++ [(j : Int)]) (by omega) (by simp; omega)
      simpa only [List.append_assoc, List.cons_append, List.nil_append] using this
theorem impl_KeyRoots_ev (l : List S56) (hl : l.length ≤ 1048576) : Ev (fun k => impl_KeyRoots.f k l) (rootsT l) := by
  unfold impl_KeyRoots.f rootsT
  refine Ev.bind (impl_LeftLeaf_ev l hl) ?_
  have := impl_KeyRoots_l0 (leafT l) (leafT_small l hl) (leafT l).length 0 [] (by omega) (by simp)
  simpa only [Int.natCast_zero, List.nil_append] using this

/-! impl_CellsIn -/
theorem impl_CellsIn_l1 (a b : List S56) (d : Nat) : ∀ j : Nat, j + d = (rootsT b).length → Ev (fun k => impl_CellsIn.l1 k (cellsT a) (X.sumL (((rootsT b).take j).map (termT b))) (leafT b) (rootsT b) (rootsT b).length j) (cellsT a * cellsT b) := by
  have hlen := rootsT_len b
  have hca := cellsT_range a
  have hcb := cellsT_range b
  induction d with
  | zero =>
    intro j hj
    have c0 : ¬ ((j : Int) < ((rootsT b).length : Int)) := by omega
    have e : (rootsT b).take j = rootsT b := List.take_of_length_le (by omega)
    have hm := mul_range hca hcb
    have e2 : wrap64 (cellsT a * cellsT b) = cellsT a * cellsT b := w64 (by omega) (by omega)
    rw [e]
    refine Ev.step (fun k => by simp only [impl_CellsIn.l1]; rw [if_neg c0]) ?_
    change Ev (fun _ => some (wrap64 (cellsT a * cellsT b))) _
    rw [e2]
    exact Ev.now _
  | succ d ih =>
    intro j hj
    have hjl : j < (rootsT b).length := by omega
    have hin := getD_in (rootsT b) j hjl
    have hr := rootsT_range b _ hin
    have ht := termT_range b _ hin
    have hp := part_range b ((rootsT b).take j) (fun x h => List.mem_of_mem_take h) (by rw [List.length_take]; omega)
    have c0 : (j : Int) < ((rootsT b).length : Int) := by omega
    have c1 : (0 : Int) ≤ (j : Int) := by omega
    have c2 := hr.1
    have c3 := hr.2
    have e4 : wrap64 ((j : Int) + 1) = ((j + 1 : Nat) : Int) := by rw [w64 (by omega) (by omega)]; rfl
    have e5 : wrap64 (X.sumL (((rootsT b).take j).map (termT b)) + termT b ((rootsT b).getD j 0)) = X.sumL (((rootsT b).take (j + 1)).map (termT b)) := by rw [take_roots b j hjl]; exact w64 (by omega) (by omega)
    refine Ev.step (fun k => by simp only [impl_CellsIn.l1]; rw [if_pos c0, if_pos c1, if_pos c0, rdD, if_pos c2, if_pos c3, term_wrap b _ hin, e5, e4]) ?_
    exact ih (j + 1) (by omega)
theorem impl_CellsIn_l0 (a b : List S56) (hb : b.length ≤ 1048576) (d : Nat) : ∀ j : Nat, j + d = (rootsT a).length → Ev (fun k => impl_CellsIn.l0 k b (X.sumL (((rootsT a).take j).map (termT a))) 0 (leafT a) (leafT b) (rootsT a) (rootsT a).length j) (cellsT a * cellsT b) := by
  have hlen := rootsT_len a
  induction d with
  | zero =>
    intro j hj
    have c0 : ¬ ((j : Int) < ((rootsT a).length : Int)) := by omega
    have e : (rootsT a).take j = rootsT a := List.take_of_length_le (by omega)
    rw [e]
    refine Ev.step (fun k => by simp only [impl_CellsIn.l0]; rw [if_neg c0]) ?_
    refine Ev.bind (impl_KeyRoots_ev b hb) ?_
    have := impl_CellsIn_l1 a b (rootsT b).length 0 (by omega)
    simpa only [List.take_zero, List.map_nil, X.sumL, Int.natCast_zero, cellsT] using this
  | succ d ih =>
    intro j hj
    have hjl : j < (rootsT a).length := by omega
    have hin := getD_in (rootsT a) j hjl
    have hr := rootsT_range a _ hin
    have ht := termT_range a _ hin
    have hp := part_range a ((rootsT a).take j) (fun x h => List.mem_of_mem_take h) (by rw [List.length_take]; omega)
    have c0 : (j : Int) < ((rootsT a).length : Int) := by omega
    have c1 : (0 : Int) ≤ (j : Int) := by omega
    have c2 := hr.1
    have c3 := hr.2
    have e4 : wrap64 ((j : Int) + 1) = ((j + 1 : Nat) : Int) := by rw [w64 (by omega) (by omega)]; rfl
    have e5 : wrap64 (X.sumL (((rootsT a).take j).map (termT a)) + termT a ((rootsT a).getD j 0)) = X.sumL (((rootsT a).take (j + 1)).map (termT a)) := by rw [take_roots a j hjl]; exact w64 (by omega) (by omega)
    refine Ev.step (fun k => by simp only [impl_CellsIn.l0]; rw [if_pos c0, if_pos c1, if_pos c0, rdD, if_pos c2, if_pos c3, term_wrap a _ hin, e5, e4]) ?_
    exact ih (j + 1) (by omega)
theorem impl_CellsIn_ev (a b : List S56) (ha : a.length ≤ 1048576) (hb : b.length ≤ 1048576) : Ev (fun k => impl_CellsIn.f k a b) (cellsT a * cellsT b) := by
  unfold impl_CellsIn.f
  refine Ev.bind (impl_TreeOk_ev a ha) ?_
  by_cases h : treeB (lab a) (dep a) a.length = true
  · simp only [if_pos h]
    refine Ev.bind (impl_TreeOk_ev b hb) ?_
    refine Ev.step (fun k => by rw [impl_CellsIn.j0]) ?_
    by_cases h2 : treeB (lab b) (dep b) b.length = true
    · simp only [h2, Bool.not_true, Bool.false_eq_true, if_false]
      refine Ev.bind (impl_LeftLeaf_ev a ha) (Ev.bind (impl_LeftLeaf_ev b hb) (Ev.bind (impl_KeyRoots_ev a ha) ?_))
      have := impl_CellsIn_l0 a b hb (rootsT a).length 0 (by omega)
      simpa only [List.take_zero, List.map_nil, X.sumL, Int.natCast_zero] using this
    · have h3 := Bool.eq_false_iff.mpr h2
      simp only [h3, Bool.not_false, if_true]
      rw [cellsT_no b h2, Int.mul_zero]
      exact Ev.now _
  · simp only [if_neg h]
    refine Ev.step (fun k => by rw [impl_CellsIn.j0]) ?_
    simp only [if_true]
    rw [cellsT_no a h, Int.zero_mul]
    exact Ev.now _

/-! laws_eqNodeS -/
theorem eqNodeS_l0 (l : List S56) (hl : l.length ≤ 1048576) (d : Nat) : ∀ i : Nat, i + d = l.length → Ev (fun k => laws_eqNodeS.l0 k l l i) true := by
  induction d with
  | zero => intro i hi; exact Ev.step (fun k => by simp only [laws_eqNodeS.l0]; rw [if_neg (by omega)]) (Ev.now _)
  | succ d ih =>
    intro i hi
    have e4 : wrap64 ((i : Int) + 1) = ((i + 1 : Nat) : Int) := by rw [w64 (by omega) (by omega)]; rfl
    refine Ev.step (fun k => by simp only [laws_eqNodeS.l0]; rw [if_pos (by omega), if_pos (by omega), if_pos (by omega)]) ?_
    simp only [laws_eqNode.f, if_true, Option.bind_some, e4]
    exact ih (i + 1) (by omega)
theorem eqNodeS_ev (l : List S56) (hl : l.length ≤ 1048576) : Ev (fun k => laws_eqNodeS.f k l l) true := by
  unfold laws_eqNodeS.f
  simp only [if_true]
  exact eqNodeS_l0 l hl l.length 0 (by omega)

theorem law : ∀ (l0 : List S58) (l1 : List S58), l0.length ≤ maxLen → (∀ x ∈ l0, (Lit.int .i64 x.f0).wf = true ∧ (Lit.int .i64 x.f1).wf = true) → l1.length ≤ maxLen → (∀ x ∈ l1, (Lit.int .i64 x.f0).wf = true ∧ (Lit.int .i64 x.f1).wf = true) → ∃ k, laws_FnExactCellsIn.f k l0 l1 = some true := by
  intro l0 l1 hl0 _ hl1 _
  refine Ev.rounds ?_
  unfold laws_FnExactCellsIn.f
  simp only [sz_eq l0 hl0 1048576 (by omega) (by omega), Option.bind_some]
  by_cases h : (1048576 : Int) < l0.length
  · simp only [if_pos h]; exact Ev.now _
  · simp only [if_neg h, if_neg (show ¬ (1048576 - (l0.length : Int) < 0) by omega)]
    simp only [sz_eq l1 hl1 (1048576 - (l0.length : Int)) (by omega) (by omega), Option.bind_some]
    by_cases h2 : (1048576 : Int) - (l0.length : Int) < l1.length
    · simp only [if_pos h2]; exact Ev.now _
    · have ha : (l0.map conv).length ≤ 1048576 := by simp; omega
      have hb : (l1.map conv).length ≤ 1048576 := by simp; omega
      simp only [if_neg h2, if_neg (show ¬ (1048576 - (l0.length : Int) - (l1.length : Int) < 0) by omega)]
      refine Ev.bind (toNodeS_ev l0 (by omega)) (Ev.bind (toNodeS_ev l1 (by omega)) (Ev.bind (spec_CellsIn_ev _ _ ha hb) (Ev.bind (toNodeS_ev l0 (by omega)) (Ev.bind (toNodeS_ev l1 (by omega)) (Ev.bind (impl_CellsIn_ev _ _ ha hb) ?_)))))
      simp only [if_true]
      refine Ev.bind (toNodeS_ev l0 (by omega)) (Ev.bind (eqNodeS_ev _ ha) ?_)
      simp only [if_true]
      refine Ev.bind (toNodeS_ev l1 (by omega)) (Ev.bind (eqNodeS_ev _ hb) ?_)
      simp only [if_true]
      exact Ev.now _

end Go.Proofs.Ytllakpcmghncoaa.PureFnExactCellsIn
namespace Go.Proofs.Ytllakpcmghncoaa.Pure
open Go.RowKit Go.Proofs.Ytllakpcmghncoaa.HFnExactCellsIn
theorem FnExactCellsIn : ∀ (l0 : List S58) (l1 : List S58), l0.length ≤ maxLen → (∀ x ∈ l0, (Lit.int .i64 x.f0).wf = true ∧ (Lit.int .i64 x.f1).wf = true) → l1.length ≤ maxLen → (∀ x ∈ l1, (Lit.int .i64 x.f0).wf = true ∧ (Lit.int .i64 x.f1).wf = true) → ∃ k, laws_FnExactCellsIn.f k l0 l1 = some true := Go.Proofs.Ytllakpcmghncoaa.PureFnExactCellsIn.law
end Go.Proofs.Ytllakpcmghncoaa.Pure
