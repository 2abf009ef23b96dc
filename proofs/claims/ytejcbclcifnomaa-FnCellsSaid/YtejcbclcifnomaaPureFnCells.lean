/- For every code: of the two lists of nodes drawn from it, the cells of all tables of forests are as many as the reference counts, and lie between the bounds. Condition: none but the model's own bound on a slice's size. -/
import Derived.Test.YtejcbclcifnomaaHFnCellsx10
import Derived.Test.YtejcbclcifnomaaM
import Derived.Test.YtejcbclcifnomaaT
import Derived.Test.YtejcbclcifnomaaY
import Derived.Test.YtejcbclcifnomaaU
import Derived.Test.YtejcbclcifnomaaV
import Derived.Test.YtejcbclcifnomaaX
namespace Go.Proofs.Ytejcbclcifnomaa.PureFnCells
open Go.RowKit Go.Proofs.Ytejcbclcifnomaa.HFnCells Go.Proofs.YtejcbclcifnomaaW.PrintWords Go.Proofs.YtejcbclcifnomaaW.PrintLast Go.Proofs.YtejcbclcifnomaaW.PrintMore Go.Proofs.Ytejcbclcifnomaa.M Go.Proofs.Ytejcbclcifnomaa.T Go.Proofs.Ytejcbclcifnomaa.U
set_option linter.unusedVariables false
set_option linter.unusedSimpArgs false

abbrev lab (l : List S58) (i : Nat) : Int := (l.getD i z58).f0
abbrev dep (l : List S58) (i : Nat) : Int := (l.getD i z58).f1
theorem rdN (l : List S58) (i : Nat) : rd_T58 l (i : Int) = l.getD i z58 := by unfold rd_T58; simp
theorem kids_small (l : List S58) (i : Nat) (hi : i < l.length) (hl : l.length ≤ 1048576) : (kidsI (dep l) l.length i).length ≤ 1048576 := by
  have := kidGo_len (dep l) (dep l i + 1) (endI (dep l) l.length i - (i + 1)) (i + 1)
  have := endI_le (dep l) l.length i hi
  unfold kidsI; omega
def heightT (l : List S58) : Int := if treeB (lab l) (dep l) l.length = true then highGo (dep l) l.length 0 0 else 0
def leavesT (l : List S58) : Int := if treeB (lab l) (dep l) l.length = true then leafGo (dep l) l.length l.length 0 0 else 0
def shapeP (acc : List S58) (i : Nat) (q : Int) : Prop := (i = 0 → q = 0) ∧ (0 < i → 1 ≤ q ∧ q ≤ dep acc (i - 1) + 1)
instance (acc : List S58) (i : Nat) (q : Int) : Decidable (shapeP acc i q) := by unfold shapeP; infer_instance

/-- The nodes by rank; none where the nodes are no tree. -/
noncomputable def postT (l : List S58) : List Int := if treeB (lab l) (dep l) l.length = true then postN (dep l) l.length else []
theorem postT_is (l : List S58) (h : treeP (lab l) (dep l) l.length) : isPost (dep l) l.length 0 (postT l) := by
  unfold postT
  rw [if_pos (treeB_iff.2 h), postN_eq (V.sorted_post h)]
  exact V.sorted_post h
theorem postT_no (l : List S58) (h : ¬ treeP (lab l) (dep l) l.length) : postT l = [] := by
  unfold postT
  rw [if_neg (fun c => h (treeB_iff.1 c))]
theorem postT_n (l : List S58) (h : treeP (lab l) (dep l) l.length) : (postT l).length = l.length := by
  have := (postT_is l h).2.2
  rw [end_root h] at this
  omega
theorem postT_len (l : List S58) : (postT l).length ≤ 24 := by
  by_cases h : treeP (lab l) (dep l) l.length
  · rw [postT_n l h]; exact h.1.2
  · rw [postT_no l h]; simp
theorem postT_small (l : List S58) (hl : l.length ≤ 1048576) : (postT l).length ≤ 1048576 := Nat.le_trans (postT_len l) (by decide)
theorem postT_node (l : List S58) (x : Int) (hx : x ∈ postT l) : treeP (lab l) (dep l) l.length ∧ ∃ i : Nat, x = i ∧ i < l.length := by
  by_cases h : treeP (lab l) (dep l) l.length
  · refine ⟨h, ?_⟩
    obtain ⟨j, e, _, hj⟩ := ((postT_is l h).1 x).1 hx
    rw [end_root h] at hj
    exact ⟨j, e, hj⟩
  · rw [postT_no l h] at hx; cases hx
theorem postT_range (l : List S58) (x : Int) (hx : x ∈ postT l) : 0 ≤ x ∧ x < (postT l).length := by
  obtain ⟨h, i, e, hi⟩ := postT_node l x hx
  rw [postT_n l h]; omega
/-- The rank of each node. -/
noncomputable def ranksT (l : List S58) : List Int := X.setGo (postT l) 0 (List.replicate (postT l).length 0)
theorem ranksT_len (l : List S58) : (ranksT l).length = (postT l).length := by unfold ranksT; rw [X.setGo_len, List.length_replicate]
theorem ranksT_small (l : List S58) (hl : l.length ≤ 1048576) : (ranksT l).length ≤ 1048576 := by rw [ranksT_len]; exact postT_small l hl
theorem ranksT_get (l : List S58) (h : treeP (lab l) (dep l) l.length) (i : Nat) (hi : i < l.length) : (ranksT l).getD i 0 = rnk (dep l) l.length i := by
  have hp := postT_is l h
  have hn := postT_n l h
  have he := end_root h
  refine X.setGo_get (rnk (dep l) l.length) l.length (postT l) 0 _ (by rw [List.length_replicate, hn]) (fun m hm => by rw [rank_at h hp m hm]; omega) (fun x hx => ?_) (fun j hj => .inl ((hp.1 _).2 ⟨j, rfl, by omega, by omega⟩)) i hi
  have := postT_range l x hx
  omega
/-- For each rank, the rank of the first leaf under its node. -/
noncomputable def leafT (l : List S58) : List Int := (postT l).map fun x => x - dep l x.toNat
theorem leafT_len (l : List S58) : (leafT l).length = (postT l).length := by unfold leafT; rw [List.length_map]
theorem leafT_small (l : List S58) (hl : l.length ≤ 1048576) : (leafT l).length ≤ 1048576 := by rw [leafT_len]; exact postT_small l hl
theorem leafT_range (l : List S58) (x : Int) (hx : x ∈ leafT l) : 0 ≤ x ∧ x < 24 := by
  unfold leafT at hx
  obtain ⟨y, hy, rfl⟩ := List.mem_map.1 hx
  obtain ⟨h, i, rfl, hi⟩ := postT_node l y hy
  have hw := dep_walk h 0 i (by omega)
  rw [Nat.zero_add, dep_zero h] at hw
  have hd := dep_range h hi
  have hn := h.1
  rw [Int.toNat_natCast]
  omega
theorem leafT_get (l : List S58) (k : Nat) : 0 ≤ (leafT l).getD k 0 ∧ (leafT l).getD k 0 < 24 := by
  by_cases c : k < (leafT l).length
  · have e : (leafT l).getD k 0 = (leafT l)[k] := by simp [List.getD_eq_getElem?_getD, c]
    rw [e]
    exact leafT_range l _ (List.getElem_mem c)
  · have e : (leafT l).getD k 0 = 0 := by simp [List.getD_eq_getElem?_getD, List.getElem?_eq_none (Nat.le_of_not_lt c)]
    omega
/-- Of all ranks with one first leaf the greatest. -/
noncomputable def rootsT (l : List S58) : List Int := X.rootGo (leafT l) (leafT l).length 0
theorem rootsT_small (l : List S58) (hl : l.length ≤ 1048576) : (rootsT l).length ≤ 1048576 := Nat.le_trans (X.rootGo_len _ _ _) (leafT_small l hl)
theorem rootsT_len (l : List S58) : (rootsT l).length ≤ 24 := by
  have := X.rootGo_len (leafT l) (leafT l).length 0
  have := leafT_len l
  have := postT_len l
  unfold rootsT
  omega
theorem rootsT_range (l : List S58) (x : Int) (hx : x ∈ rootsT l) : 0 ≤ x ∧ x < (leafT l).length := by
  obtain ⟨j, e, _, hj⟩ := X.rootGo_mem _ _ _ x hx
  omega
/-- How many nodes are under each of these, itself among them. -/
noncomputable def termT (l : List S58) (r : Int) : Int := r - (leafT l).getD r.toNat 0 + 1
theorem termT_range (l : List S58) (x : Int) (hx : x ∈ rootsT l) : -24 ≤ termT l x ∧ termT l x ≤ 24 := by
  have h1 := rootsT_range l x hx
  have h2 := leafT_get l x.toNat
  have h3 := leafT_len l
  have h4 := postT_len l
  unfold termT
  omega
noncomputable def cellsT (l : List S58) : Int := X.sumL ((rootsT l).map (termT l))
theorem rdD (xs : List Int) (i : Nat) : rd xs (i : Int) = xs.getD i 0 := by unfold rd; simp
theorem dropD (xs : List Int) (j : Nat) (h : j < xs.length) : xs.drop j = xs.getD j 0 :: xs.drop (j + 1) := by
  rw [List.drop_eq_getElem_cons h]; simp [List.getD_eq_getElem?_getD, h]
theorem getD_in (xs : List Int) (j : Nat) (h : j < xs.length) : xs.getD j 0 ∈ xs := by
  have e : xs.getD j 0 = xs[j] := by simp [List.getD_eq_getElem?_getD, h]
  rw [e]; exact List.getElem_mem h
theorem mul_range {a b : Int} (ha : -576 ≤ a ∧ a ≤ 576) (hb : -576 ≤ b ∧ b ≤ 576) : -331776 ≤ a * b ∧ a * b ≤ 331776 := by
  have h1 : a.natAbs * b.natAbs ≤ 576 * 576 := Nat.mul_le_mul (by omega) (by omega)
  have h2 : (a * b).natAbs = a.natAbs * b.natAbs := Int.natAbs_mul a b
  omega
theorem part_range (l : List S58) (xs : List Int) (hx : ∀ x ∈ xs, x ∈ rootsT l) (hn : xs.length ≤ 24) : -576 ≤ X.sumL (xs.map (termT l)) ∧ X.sumL (xs.map (termT l)) ≤ 576 := by
  have := X.sumL_range 24 (by omega) (xs.map (termT l)) (fun y hy => by
    obtain ⟨x, h1, rfl⟩ := List.mem_map.1 hy
    exact termT_range l x (hx x h1))
  rw [List.length_map] at this
  omega
theorem cellsT_range (l : List S58) : -576 ≤ cellsT l ∧ cellsT l ≤ 576 := part_range l (rootsT l) (fun x h => h) (rootsT_len l)
theorem term_wrap (l : List S58) (x : Int) (hx : x ∈ rootsT l) : wrap64 (wrap64 (x - rd (leafT l) x) + 1) = termT l x := by
  have h1 := rootsT_range l x hx
  have h2 := leafT_get l x.toNat
  have h3 := leafT_len l
  have h4 := postT_len l
  have e : rd (leafT l) x = (leafT l).getD x.toNat 0 := rfl
  have e1 : wrap64 (x - (leafT l).getD x.toNat 0) = x - (leafT l).getD x.toNat 0 := w64 (by omega) (by omega)
  rw [e, e1]
  clear e1
  unfold termT
  exact w64 (by omega) (by omega)
theorem take_roots (l : List S58) (j : Nat) (hj : j < (rootsT l).length) : X.sumL (((rootsT l).take (j + 1)).map (termT l)) = X.sumL (((rootsT l).take j).map (termT l)) + termT l ((rootsT l).getD j 0) := by
  have e : (rootsT l).take (j + 1) = (rootsT l).take j ++ [(rootsT l).getD j 0] := by
    rw [List.take_add_one]
    simp [List.getD_eq_getElem?_getD, hj]
  rw [e, List.map_append, X.sumL_app]
  simp [X.sumL]
theorem cellsT_no (l : List S58) (h : ¬ treeB (lab l) (dep l) l.length = true) : cellsT l = 0 := by
  have e : postT l = [] := postT_no l (fun c => h (treeB_iff.2 c))
  unfold cellsT rootsT leafT
  rw [e]
  rfl

/-! spec_l1In -/
theorem spec_l1In_eq (a b c : Int) : spec_l1In.f a b c = some (decide (b ≤ a ∧ a ≤ c)) := by
  unfold spec_l1In.f
  by_cases h : b ≤ a
  · rw [if_pos h]; simp [h]
  · rw [if_neg h]; simp [h]

/-! spec_LabelOk -/
theorem spec_LabelOk_eq (a : Int) : spec_LabelOk.f a = some (decide (0 ≤ a ∧ a ≤ 5)) := by
  unfold spec_LabelOk.f; simp only [spec_l1In_eq, Option.bind_some]

/-! spec_TreeOk -/
theorem spec_TreeOk_l0 (l : List S58) (hl : l.length ≤ 1048576) (d : Nat) : ∀ i : Nat, i + d = l.length → (∀ j, j < i → nodeOk (lab l) (dep l) j) → Ev (fun k => spec_TreeOk.l0 k l i) (treeB (lab l) (dep l) l.length) := by
  induction d with
  | zero =>
    intro i hi hall
    refine Ev.step (fun k => by simp only [spec_TreeOk.l0]; rw [if_neg (by omega)]) ?_
    simp only [spec_l1In_eq, Option.bind_some]
    refine evSome ?_
    have e : i = l.length := by omega
    rw [treeB_all (by rw [← e]; exact hall)]
    congr 1; simp; omega
  | succ d ih =>
    intro i hi hall
    have hil : i < l.length := by omega
    have c1 : (i : Int) < (l.length : Int) := by omega
    have c2 : (0 : Int) ≤ (i : Int) := by omega
    refine Ev.step (fun k => by simp only [spec_TreeOk.l0]; rw [if_pos c1, if_pos c2]) ?_
    simp only [spec_LabelOk_eq, spec_l1In_eq, Option.bind_some, rdN, decide_eq_true_eq]
    by_cases h1 : 0 ≤ lab l i ∧ lab l i ≤ 5
    · simp only [if_pos h1]
      by_cases h2 : 0 ≤ dep l i ∧ dep l i ≤ 12
      · simp only [if_pos h2]
        by_cases h0 : i = 0
        · subst h0
          by_cases hz : dep l 0 = 0
          · have hb : ((dep l 0 == 0) != (((0 : Nat) : Int) == 0)) = false := by rw [hz]; rfl
            have hn := ih 1 (by omega) (fun j hj => by
              have : j = 0 := by omega
              subst this; exact ⟨h1.1, h1.2, h2.1, h2.2, fun _ => hz, fun h => by omega⟩)
            have e4 : wrap64 (((0 : Nat) : Int) + 1) = ((1 : Nat) : Int) := by rw [w64 (by omega) (by omega)]; rfl
            simp only [hb, Bool.false_eq_true, if_false, e4, if_neg (show ¬ ((0 : Nat) : Int) > 0 by omega)]
            exact hn
          · have hb : ((dep l 0 == 0) != (((0 : Nat) : Int) == 0)) = true := by simp [hz]
            simp only [hb, if_true]
            refine evSome (treeB_no hil ?_).symm
            intro h; exact hz (h.2.2.2.2.1 rfl)
        · have hiz : ((i : Int) == 0) = false := by simp; omega
          by_cases hz : dep l i = 0
          · have hb : ((dep l i == 0) != ((i : Int) == 0)) = true := by rw [hiz, hz]; rfl
            simp only [hb, if_true]
            refine evSome (treeB_no hil ?_).symm
            intro h; have := h.2.2.2.2.2 (by omega); omega
          · have hb : ((dep l i == 0) != ((i : Int) == 0)) = false := by rw [hiz]; simp [hz]
            have hp := hall (i - 1) (by omega)
            have hpr : 0 ≤ dep l (i - 1) ∧ dep l (i - 1) ≤ 12 := ⟨hp.2.2.1, hp.2.2.2.1⟩
            have hn : (1 ≤ dep l i ∧ dep l i ≤ dep l (i - 1) + 1) → _ := fun hd => ih (i + 1) (by omega) (fun j hj => by
              by_cases hji : j < i
              · exact hall j hji
              · have : j = i := by omega
                subst this; exact ⟨h1.1, h1.2, h2.1, h2.2, fun h => by omega, fun _ => hd⟩)
            have e3 : wrap64 ((i : Int) - 1) = ((i - 1 : Nat) : Int) := by rw [w64 (by omega) (by omega)]; omega
            have e4 : wrap64 ((i : Int) + 1) = ((i + 1 : Nat) : Int) := by rw [w64 (by omega) (by omega)]; rfl
            have c5 : (0 : Int) ≤ ((i - 1 : Nat) : Int) := by omega
            have c6 : ((i - 1 : Nat) : Int) < (l.length : Int) := by omega
            have e5 : wrap64 (dep l (i - 1) + 1) = dep l (i - 1) + 1 := w64 (by omega) (by omega)
            simp only [hb, Bool.false_eq_true, if_false, e3, e4, if_pos (show (i : Int) > 0 by omega), if_pos c5, if_pos c6, rdN, e5]
            by_cases hd : dep l i > dep l (i - 1) + 1
            · simp only [if_pos hd]
              refine evSome (treeB_no hil ?_).symm
              intro h; have := (h.2.2.2.2.2 (by omega)).2; omega
            · simp only [if_neg hd]
              exact hn ⟨by omega, by omega⟩
      · simp only [if_neg h2]
        exact evSome (treeB_no hil (fun h => h2 ⟨h.2.2.1, h.2.2.2.1⟩)).symm
    · simp only [if_neg h1]
      exact evSome (treeB_no hil (fun h => h1 ⟨h.1, h.2.1⟩)).symm
theorem spec_TreeOk_ev (l : List S58) (hl : l.length ≤ 1048576) : Ev (fun k => spec_TreeOk.f k l) (treeB (lab l) (dep l) l.length) :=
  spec_TreeOk_l0 l hl l.length 0 (by omega) (fun j hj => by omega)

/-! spec_HeightOf -/
theorem spec_HeightOf_l0 (l : List S58) (hl : l.length ≤ 1048576) (hb : treeB (lab l) (dep l) l.length = true) (d : Nat) : ∀ (j : Nat) (a : Int), j + d = l.length → Ev (fun k => spec_HeightOf.l0 k l a j) (highGo (dep l) d j a) := by
  induction d with
  | zero =>
    intro j a hj
    exact Ev.step (f := fun _ => some a) (fun k => by simp only [spec_HeightOf.l0]; rw [if_neg (by omega)]) (Ev.now _)
  | succ d ih =>
    intro j a hj
    have c1 : (j : Int) < (l.length : Int) := by omega
    have c2 : (0 : Int) ≤ (j : Int) := by omega
    have hr := dep_range (treeB_iff.1 hb) (i := j) (by omega)
    have e4 : wrap64 ((j : Int) + 1) = ((j + 1 : Nat) : Int) := by rw [w64 (by omega) (by omega)]; rfl
    have e5 : wrap64 (dep l j + 1) = dep l j + 1 := w64 (by omega) (by omega)
    refine Ev.step (fun k => by rw [spec_HeightOf.l0, if_pos c1]) ?_
    refine Ev.bind (spec_TreeOk_ev l hl) ?_
    simp only [if_pos hb, if_pos c2, e4, rdN, e5, highGo]
    exact ih (j + 1) _ (by omega)
theorem spec_HeightOf_ev (l : List S58) (hl : l.length ≤ 1048576) : Ev (fun k => spec_HeightOf.f k l) (heightT l) := by
  unfold spec_HeightOf.f heightT
  by_cases h : treeB (lab l) (dep l) l.length = true
  · rw [if_pos h]
    exact spec_HeightOf_l0 l hl h l.length 0 0 (by omega)
  · rw [if_neg h]
    by_cases h0 : (0 : Int) < (l.length : Int)
    · refine Ev.step (fun k => by rw [spec_HeightOf.l0, if_pos h0]) ?_
      refine Ev.bind (spec_TreeOk_ev l hl) ?_
      simp only [if_neg h]; exact Ev.now _
    · exact Ev.step (f := fun _ => some 0) (fun k => by rw [spec_HeightOf.l0, if_neg h0]) (Ev.now _)

/-! laws_big -/
theorem big_eq (c : List Int) : laws_big.f c = some (decide ((c.length : Int) > 1048576)) := rfl

/-! spec_l1New -/
theorem new_l0 (c : List Int) (hc : c.length ≤ 1048576) (d : Nat) : ∀ (h : Int) (j : Nat), j + d = c.length → ∃ h', Ev (fun k => spec_l1New.l0 k c h j) (c, 0, h') := by
  induction d with
  | zero =>
    intro h j hj
    exact ⟨h, Ev.step (f := fun _ => some (c, 0, h)) (fun k => by rw [spec_l1New.l0, if_neg (by omega)]) (Ev.now _)⟩
  | succ d ih =>
    intro h j hj
    have c1 : (j : Int) < (c.length : Int) := by omega
    have c2 : (0 : Int) ≤ (j : Int) := by omega
    have e4 : wrap64 ((j : Int) + 1) = ((j + 1 : Nat) : Int) := by rw [w64 (by omega) (by omega)]; rfl
    by_cases g : (j : Int) < 4000
    · obtain ⟨h', a⟩ := ih (Go.bits .and .i64 (wrap64 ((wrap64 ((wrap64 (h * 131)) + (wrap64 (rd c j)))) + 7)) 1073741823) (j + 1) (by omega)
      exact ⟨h', Ev.step (fun k => by rw [spec_l1New.l0, if_pos c1, if_pos g, if_pos c2, e4]) a⟩
    · exact ⟨h, Ev.step (f := fun _ => some (c, 0, h)) (fun k => by rw [spec_l1New.l0, if_pos c1, if_neg g]) (Ev.now _)⟩
theorem new_ok (c : List Int) (hc : c.length ≤ 1048576) : ∃ h', Ev (fun k => spec_l1New.f k c) (c, 0, h') := new_l0 c hc c.length _ 0 (by omega)

/-! spec_l1Byte -/
theorem and255 (x : Int) : 0 ≤ Go.bits .and .i64 x 255 ∧ Go.bits .and .i64 x 255 ≤ 255 := by
  unfold Go.bits
  have h1 : (BitVec.ofInt 64 x &&& BitVec.ofInt 64 255).toNat ≤ 255 := by
    rw [BitVec.toNat_and]
    exact Nat.and_le_right
  have h2 : IntKind.i64.wrap ((BitVec.ofInt 64 x &&& BitVec.ofInt 64 255).toNat : Int) = ((BitVec.ofInt 64 x &&& BitVec.ofInt 64 255).toNat : Int) := wraps_i64 _ (by omega) (by omega)
  show 0 ≤ IntKind.i64.wrap ((BitVec.ofInt 64 x &&& BitVec.ofInt 64 255).toNat : Int) ∧ IntKind.i64.wrap ((BitVec.ofInt 64 x &&& BitVec.ofInt 64 255).toNat : Int) ≤ 255
  rw [h2]
  omega
theorem byte_ok (b : List Int) (hb : b.length ≤ 1048576) (i h : Int) (hi : 0 ≤ i ∧ i ≤ 1048576) : ∃ x i' h', spec_l1Byte.f b i h = some (x, i', h') ∧ (0 ≤ x ∧ x ≤ 255) ∧ (0 ≤ i' ∧ i' ≤ 1048576) := by
  unfold spec_l1Byte.f
  by_cases c : i < (b.length : Int)
  · rw [if_pos c, if_pos hi.1]
    refine ⟨_, _, _, rfl, and255 _, ?_⟩
    rw [w64 (by omega) (by omega)]; omega
  · rw [if_neg c]
    exact ⟨_, _, _, rfl, and255 _, hi⟩

/-! spec_l1Below -/
theorem below_ok (b : List Int) (hb : b.length ≤ 1048576) (i h : Int) (hi : 0 ≤ i ∧ i ≤ 1048576) (n : Int) : ∃ x i' h', spec_l1Below.f b i h n = some (x, i', h') ∧ (0 ≤ x ∧ (0 < n → x < n) ∧ (n ≤ 0 → x = 0)) ∧ (0 ≤ i' ∧ i' ≤ 1048576) := by
  unfold spec_l1Below.f
  by_cases c : n ≤ 0
  · rw [if_pos c]
    exact ⟨_, _, _, rfl, ⟨by omega, by omega, fun _ => rfl⟩, hi⟩
  · rw [if_neg c]
    by_cases c2 : n ≤ 256
    · rw [if_pos c2]
      obtain ⟨x, i1, h1, e1, hx, hi1⟩ := byte_ok b hb i h hi
      rw [e1]
      simp only [Option.bind_some]
      rw [if_neg (by omega)]
      refine ⟨_, _, _, rfl, ⟨?_, ?_, ?_⟩, hi1⟩
      · rw [Int.tmod_eq_emod_of_nonneg hx.1]; exact Int.emod_nonneg _ (by omega)
      · intro _; rw [Int.tmod_eq_emod_of_nonneg hx.1]; exact Int.emod_lt_of_pos _ (by omega)
      · intro g; omega
    · rw [if_neg c2]
      obtain ⟨x1, i1, h1, e1, hx1, hi1⟩ := byte_ok b hb i h hi
      rw [e1]
      simp only [Option.bind_some]
      obtain ⟨x2, i2, h2, e2, hx2, hi2⟩ := byte_ok b hb i1 h1 hi1
      rw [e2]
      simp only [Option.bind_some]
      obtain ⟨x3, i3, h3, e3, hx3, hi3⟩ := byte_ok b hb i2 h2 hi2
      rw [e3]
      simp only [Option.bind_some]
      obtain ⟨x4, i4, h4, e4, hx4, hi4⟩ := byte_ok b hb i3 h3 hi3
      rw [e4]
      simp only [Option.bind_some]
      rw [if_neg (by omega)]
      clear e1 e2 e3 e4
      have g1 : wrap64 (x1 * 16777216) = x1 * 16777216 := w64 (by omega) (by omega)
      have g2 : wrap64 (x2 * 65536) = x2 * 65536 := w64 (by omega) (by omega)
      have g3 : wrap64 (x3 * 256) = x3 * 256 := w64 (by omega) (by omega)
      rw [g1, g2, g3]
      clear g1 g2 g3
      have g4 : wrap64 (x1 * 16777216 + x2 * 65536) = x1 * 16777216 + x2 * 65536 := w64 (by omega) (by omega)
      rw [g4]
      clear g4
      have g5 : wrap64 (x1 * 16777216 + x2 * 65536 + x3 * 256) = x1 * 16777216 + x2 * 65536 + x3 * 256 := w64 (by omega) (by omega)
      rw [g5]
      clear g5
      have g6 : wrap64 (x1 * 16777216 + x2 * 65536 + x3 * 256 + x4) = x1 * 16777216 + x2 * 65536 + x3 * 256 + x4 := w64 (by omega) (by omega)
      rw [g6]
      clear g6
      have g7 : 0 ≤ x1 * 16777216 + x2 * 65536 + x3 * 256 + x4 := by omega
      refine ⟨_, _, _, rfl, ⟨?_, ?_, ?_⟩, hi4⟩
      · rw [Int.tmod_eq_emod_of_nonneg g7]; exact Int.emod_nonneg _ (by omega)
      · intro _; rw [Int.tmod_eq_emod_of_nonneg g7]; exact Int.emod_lt_of_pos _ (by omega)
      · intro g; omega

/-! spec_l2Label -/
theorem label_ok (b : List Int) (hb : b.length ≤ 1048576) (i h : Int) (hi : 0 ≤ i ∧ i ≤ 1048576) : ∃ x i' h', spec_l2Label.f b i h = some (x, i', h') ∧ (0 ≤ x ∧ x < 4) ∧ (0 ≤ i' ∧ i' ≤ 1048576) := by
  obtain ⟨x, i1, h1, e1, hx, hi1⟩ := below_ok b hb i h hi 4
  unfold spec_l2Label.f
  rw [e1]
  exact ⟨_, _, _, rfl, ⟨hx.1, hx.2.1 (by omega)⟩, hi1⟩

/-! spec_l1Once -/
theorem once_ok (b : List Int) (hb : b.length ≤ 1048576) (i h : Int) (hi : 0 ≤ i ∧ i ≤ 1048576) (n : Int) : ∃ x i' h', spec_l1Once.f b i h n = some (x, i', h') ∧ (0 ≤ i' ∧ i' ≤ 1048576) := by
  obtain ⟨x, i1, h1, e1, _, hi1⟩ := below_ok b hb i h hi n
  unfold spec_l1Once.f
  rw [e1]
  exact ⟨_, _, _, rfl, hi1⟩

/-! spec_l3Tree -/
theorem tree_l0 (b : List Int) (hb : b.length ≤ 1048576) (d : Nat) : ∀ (l : List S58) (i h : Int), 0 < l.length → l.length + d ≤ 1000 → (0 ≤ i ∧ i ≤ 1048576) →
    ∃ l' i' h', Ev (fun k => spec_l3Tree.l0 k l d b i h) (l', i', h') ∧ l'.length = l.length + d ∧ (0 ≤ i' ∧ i' ≤ 1048576) := by
  induction d with
  | zero =>
    intro l i h hl hd hi
    exact ⟨l, i, h, Ev.step (f := fun _ => some (l, i, h)) (fun k => by rw [spec_l3Tree.l0, if_neg (by decide)]) (Ev.now _), rfl, hi⟩
  | succ d ih =>
    intro l i h hl hd hi
    have c1 : ((d + 1 : Nat) : Int) > 0 := by omega
    have e1 : wrap64 ((l.length : Int) - 1) = (l.length : Int) - 1 := w64 (by omega) (by omega)
    have c2 : (0 : Int) ≤ (l.length : Int) - 1 := by omega
    have c3 : (l.length : Int) - 1 < (l.length : Int) := by omega
    have e2 : wrap64 (((d + 1 : Nat) : Int) - 1) = (d : Int) := by rw [w64 (by omega) (by omega)]; omega
    have c4 : l.length < 8796093022208 := by omega
    obtain ⟨x1, i1, h1, f1, hx1, hi1⟩ := below_ok b hb i h hi (wrap64 (((rd_T58 l ((l.length : Int) - 1)).f1) + 1))
    obtain ⟨x2, i2, h2, f2, hi2⟩ := once_ok b hb i1 h1 hi1 2
    obtain ⟨x3, i3, h3, f3, hx3, hi3⟩ := label_ok b hb i2 h2 hi2
    have go : ∀ x : S58, ∃ l' i' h', Ev (fun k => spec_l3Tree.l0 k (l ++ [x]) d b i3 h3) (l', i', h') ∧ l'.length = l.length + (d + 1) ∧ (0 ≤ i' ∧ i' ≤ 1048576) := by
      intro x
      obtain ⟨l', i', h', a1, a2, a3⟩ := ih (l ++ [x]) i3 h3 (by simp) (by simp; omega) hi3
      exact ⟨l', i', h', a1, by rw [a2]; simp; omega, a3⟩
    have key : ∃ x : S58, ∀ k, spec_l3Tree.l0 (k + 1) l ((d + 1 : Nat) : Int) b i h = spec_l3Tree.l0 k (l ++ [x]) d b i3 h3 := by
      cases x2 with
      | true =>
        by_cases g : (wrap64 (((rd_T58 l ((l.length : Int) - 1)).f1) + 1)) > 12
        · exact ⟨⟨x3, 1⟩, fun k => by rw [spec_l3Tree.l0, if_pos c1, e1, if_pos c2, if_pos c3, f1]; simp only [Option.bind_some]; rw [f2]; simp only [Option.bind_some, if_true]; rw [if_pos g, f3]; simp only [Option.bind_some]; rw [if_pos c4, e2]⟩
        · exact ⟨⟨x3, wrap64 (((rd_T58 l ((l.length : Int) - 1)).f1) + 1)⟩, fun k => by rw [spec_l3Tree.l0, if_pos c1, e1, if_pos c2, if_pos c3, f1]; simp only [Option.bind_some]; rw [f2]; simp only [Option.bind_some, if_true]; rw [if_neg g, f3]; simp only [Option.bind_some]; rw [if_pos c4, e2]⟩
      | false =>
        by_cases g : (wrap64 (1 + x1)) > 12
        · exact ⟨⟨x3, 1⟩, fun k => by rw [spec_l3Tree.l0, if_pos c1, e1, if_pos c2, if_pos c3, f1]; simp only [Option.bind_some]; rw [f2]; simp only [Option.bind_some, Bool.false_eq_true, if_false]; rw [if_pos g, f3]; simp only [Option.bind_some]; rw [if_pos c4, e2]⟩
        · exact ⟨⟨x3, wrap64 (1 + x1)⟩, fun k => by rw [spec_l3Tree.l0, if_pos c1, e1, if_pos c2, if_pos c3, f1]; simp only [Option.bind_some]; rw [f2]; simp only [Option.bind_some, Bool.false_eq_true, if_false]; rw [if_neg g, f3]; simp only [Option.bind_some]; rw [if_pos c4, e2]⟩
    obtain ⟨x, hx⟩ := key
    obtain ⟨l', i', h', a1, a2, a3⟩ := go x
    exact ⟨l', i', h', Ev.step hx a1, a2, a3⟩
theorem tree_ok (b : List Int) (hb : b.length ≤ 1048576) (i h : Int) (hi : 0 ≤ i ∧ i ≤ 1048576) (n : Nat) (hn : n ≤ 500) : ∃ l i' h', Ev (fun k => spec_l3Tree.f k b i h n) (l, i', h') ∧ (0 < l.length ∧ l.length ≤ n + 1) ∧ (0 ≤ i' ∧ i' ≤ 1048576) := by
  obtain ⟨x1, i1, h1, f1, hx1, hi1⟩ := label_ok b hb i h hi
  obtain ⟨x2, i2, h2, f2, hx2, hi2⟩ := below_ok b hb i1 h1 hi1 (n : Int)
  have hx : x2 ≤ n := by
    by_cases g : (0 : Int) < n
    · have := hx2.2.1 g; omega
    · have := hx2.2.2 (by omega); omega
  obtain ⟨m, rfl⟩ := Int.eq_ofNat_of_zero_le hx2.1
  obtain ⟨l', i', h', a1, a2, a3⟩ := tree_l0 b hb m [⟨x1, 0⟩] i2 h2 (by simp) (by simp; omega) hi2
  refine ⟨l', i', h', ?_, ⟨by rw [a2]; simp; omega, by rw [a2]; simp; omega⟩, a3⟩
  unfold spec_l3Tree.f
  rw [f1]
  simp only [Option.bind_some]
  rw [f2]
  exact a1

/-! spec_l1PickInt -/
theorem pickInt_ok (b : List Int) (hb : b.length ≤ 1048576) (i h : Int) (hi : 0 ≤ i ∧ i ≤ 1048576) (l : List Int) (hl : 0 < l.length) : ∃ x i' h', spec_l1PickInt.f b i h l = some (x, i', h') ∧ x ∈ l ∧ (0 ≤ i' ∧ i' ≤ 1048576) := by
  obtain ⟨x, i1, h1, e1, hx, hi1⟩ := below_ok b hb i h hi (l.length : Int)
  unfold spec_l1PickInt.f
  rw [e1]
  simp only [Option.bind_some]
  have hlt := hx.2.1 (by omega)
  rw [if_pos hx.1, if_pos hlt]
  refine ⟨_, _, _, rfl, ?_, hi1⟩
  unfold rd
  have hn : x.toNat < l.length := by omega
  rw [List.getD_eq_getElem?_getD, List.getElem?_eq_getElem hn]
  exact List.getElem_mem hn

/-! spec_l2Any -/
theorem any_ok (b : List Int) (hb : b.length ≤ 1048576) (i h : Int) (hi : 0 ≤ i ∧ i ≤ 1048576) : ∃ x i' h', spec_l2Any.f b i h = some (x, i', h') ∧ (-1 ≤ x ∧ x ≤ 6) ∧ (0 ≤ i' ∧ i' ≤ 1048576) := by
  obtain ⟨x, i1, h1, e1, hx, hi1⟩ := pickInt_ok b hb i h hi [0, 1, 2, 3, 5, 6, -1] (by decide)
  unfold spec_l2Any.f
  rw [e1]
  refine ⟨_, _, _, rfl, ?_, hi1⟩
  simp only [List.mem_cons, List.not_mem_nil, or_false] at hx
  omega

/-! spec_l3Any -/
theorem any_loop0 (b : List Int) (hb : b.length ≤ 1048576) (d : Nat) : ∀ (l : List S58) (i h : Int), l.length + d = 600 → (0 ≤ i ∧ i ≤ 1048576) → ∃ l' i' h', Ev (fun k => spec_l3Any.l0 k l b i h) (l', i', h') ∧ l'.length ≤ 600 ∧ (0 ≤ i' ∧ i' ≤ 1048576) := by
  induction d with
  | zero =>
    intro l i h hl hi
    obtain ⟨x1, i1, h1, f1, hx1, hi1⟩ := below_ok b hb i h hi 2
    have := hx1.2.1 (by omega)
    have e1 : wrap64 (24 + x1) = 24 + x1 := w64 (by omega) (by omega)
    exact ⟨l, i1, h1, Ev.step (f := fun _ => some (l, i1, h1)) (fun k => by rw [spec_l3Any.l0, f1]; simp only [Option.bind_some]; rw [e1, if_neg (by omega)]) (Ev.now _), by omega, hi1⟩
  | succ d ih =>
    intro l i h hl hi
    obtain ⟨x1, i1, h1, f1, hx1, hi1⟩ := below_ok b hb i h hi 2
    by_cases g : (l.length : Int) < wrap64 (24 + x1)
    · obtain ⟨l', i', h', a1, a2, a3⟩ := ih (l ++ [⟨1, 1⟩]) i1 h1 (by simp; omega) hi1
      exact ⟨l', i', h', Ev.step (fun k => by rw [spec_l3Any.l0, f1]; simp only [Option.bind_some]; rw [if_pos g, if_pos (by omega)]) a1, a2, a3⟩
    · exact ⟨l, i1, h1, Ev.step (f := fun _ => some (l, i1, h1)) (fun k => by rw [spec_l3Any.l0, f1]; simp only [Option.bind_some]; rw [if_neg g]) (Ev.now _), by omega, hi1⟩
theorem any_loop1 (b : List Int) (hb : b.length ≤ 1048576) (d : Nat) : ∀ (l : List S58) (i h : Int), l.length + d = 600 → (0 ≤ i ∧ i ≤ 1048576) → ∃ l' i' h', Ev (fun k => spec_l3Any.l1 k l b i h) (l', i', h') ∧ l'.length ≤ 600 ∧ (0 ≤ i' ∧ i' ≤ 1048576) := by
  induction d with
  | zero =>
    intro l i h hl hi
    obtain ⟨x1, i1, h1, f1, hx1, hi1⟩ := below_ok b hb i h hi 2
    have := hx1.2.1 (by omega)
    have e1 : wrap64 (13 + x1) = 13 + x1 := w64 (by omega) (by omega)
    exact ⟨l, i1, h1, Ev.step (f := fun _ => some (l, i1, h1)) (fun k => by rw [spec_l3Any.l1, f1]; simp only [Option.bind_some]; rw [e1, if_neg (by omega)]) (Ev.now _), by omega, hi1⟩
  | succ d ih =>
    intro l i h hl hi
    obtain ⟨x1, i1, h1, f1, hx1, hi1⟩ := below_ok b hb i h hi 2
    by_cases g : (l.length : Int) < wrap64 (13 + x1)
    · obtain ⟨l', i', h', a1, a2, a3⟩ := ih (l ++ [⟨0, (l.length : Int)⟩]) i1 h1 (by simp; omega) hi1
      exact ⟨l', i', h', Ev.step (fun k => by rw [spec_l3Any.l1, f1]; simp only [Option.bind_some]; rw [if_pos g, if_pos (by omega)]) a1, a2, a3⟩
    · exact ⟨l, i1, h1, Ev.step (f := fun _ => some (l, i1, h1)) (fun k => by rw [spec_l3Any.l1, f1]; simp only [Option.bind_some]; rw [if_neg g]) (Ev.now _), by omega, hi1⟩
theorem l3Any_ok (b : List Int) (hb : b.length ≤ 1048576) (i h : Int) (hi : 0 ≤ i ∧ i ≤ 1048576) (n : Nat) (hn : n ≤ 500) : ∃ l i' h', Ev (fun k => spec_l3Any.f k b i h n) (l, i', h') ∧ l.length ≤ 600 ∧ (0 ≤ i' ∧ i' ≤ 1048576) := by
  obtain ⟨t, i1, h1, f1, ht, hi1⟩ := tree_ok b hb i h hi n hn
  obtain ⟨x2, i2, h2, f2, hx2, hi2⟩ := below_ok b hb i1 h1 hi1 (t.length : Int)
  obtain ⟨x3, i3, h3, f3, hx3, hi3⟩ := below_ok b hb i2 h2 hi2 18
  have hlt := hx2.2.1 (by omega)
  suffices key : ∃ l i' h', Ev (fun k => if x3 = 0 then ((spec_l2Any.f b i3 h3).bind fun bt233 => (if 0 ≤ x2 then (if x2 < (t.length : Int) then (some ((t.set (x2 : Int).toNat (⟨bt233.1, (rd_T58 t x2).f1⟩ : S58)), bt233.2.1, bt233.2.2)) else (none)) else (none))) else (if x3 = 1 then (if 0 ≤ x2 then (if x2 < (t.length : Int) then ((spec_l1PickInt.f b i3 h3 (([(-1), 0, 1, 13, wrap64 (((rd_T58 t x2).f1) + 1)] : List Int))).bind fun bt241 => (some ((t.set (x2 : Int).toNat (⟨(rd_T58 t x2).f0, bt241.1⟩ : S58)), bt241.2.1, bt241.2.2))) else (none)) else (none)) else (if x3 = 2 then (if 1 ≤ (t.length : Int) then (some ((t.drop (1 : Int).toNat), i3, h3)) else (none)) else (if x3 = 3 then (spec_l3Any.l0 k t b i3 h3) else (if x3 = 4 then (spec_l3Any.l1 k (([(⟨0, 0⟩ : S58)] : List (S58))) b i3 h3) else (some (t, i3, h3))))))) (l, i', h') ∧ l.length ≤ 600 ∧ (0 ≤ i' ∧ i' ≤ 1048576) by
    obtain ⟨l, i', h', a1, a2, a3⟩ := key
    refine ⟨l, i', h', ?_, a2, a3⟩
    unfold spec_l3Any.f
    refine Ev.bind f1 ?_
    simp only [f2, f3, Option.bind_some]
    exact a1
  by_cases g0 : x3 = 0
  · obtain ⟨x4, i4, h4, f4, _, hi4⟩ := any_ok b hb i3 h3 hi3
    simp only [if_pos g0, f4, Option.bind_some, if_pos hx2.1, if_pos hlt]
    exact ⟨_, _, _, Ev.now _, by simp; omega, hi4⟩
  · simp only [if_neg g0]
    by_cases g1 : x3 = 1
    · obtain ⟨x4, i4, h4, f4, _, hi4⟩ := pickInt_ok b hb i3 h3 hi3 [(-1), 0, 1, 13, wrap64 (((rd_T58 t x2).f1) + 1)] (by simp)
      simp only [if_pos g1, f4, Option.bind_some, if_pos hx2.1, if_pos hlt]
      exact ⟨_, _, _, Ev.now _, by simp; omega, hi4⟩
    · simp only [if_neg g1]
      by_cases g2 : x3 = 2
      · simp only [if_pos g2, if_pos (show (1 : Int) ≤ (t.length : Int) by omega)]
        exact ⟨_, _, _, Ev.now _, by simp; omega, hi3⟩
      · simp only [if_neg g2]
        by_cases g3 : x3 = 3
        · simp only [if_pos g3]
          exact any_loop0 b hb (600 - t.length) t i3 h3 (by omega) hi3
        · simp only [if_neg g3]
          by_cases g4 : x3 = 4
          · simp only [if_pos g4]
            exact any_loop1 b hb 599 [⟨0, 0⟩] i3 h3 (by simp) hi3
          · simp only [if_neg g4]
            exact ⟨_, _, _, Ev.now _, by omega, hi3⟩

/-! impl_within -/
theorem impl_within_eq (a b c : Int) : impl_within.f a b c = some (decide (b ≤ a ∧ a ≤ c)) := by
  unfold impl_within.f
  by_cases h : b ≤ a
  · rw [if_pos h]; simp [h]
  · rw [if_neg h]; simp [h]

/-! impl_LabelOk -/
theorem impl_LabelOk_eq (a : Int) : impl_LabelOk.f a = some (decide (0 ≤ a ∧ a ≤ 5)) := by
  unfold impl_LabelOk.f; simp only [impl_within_eq, Option.bind_some]

/-! impl_depthOk -/
theorem impl_depthOk_eq (l : List S58) (i : Nat) (hi : i < l.length) (hl : l.length ≤ 1048576) (hp : 0 < i → -1 ≤ dep l (i - 1) ∧ dep l (i - 1) ≤ 12) :
    impl_depthOk.f l (i : Int) = some (decide ((i = 0 → dep l i = 0) ∧ (0 < i → 1 ≤ dep l i ∧ dep l i ≤ dep l (i - 1) + 1))) := by
  unfold impl_depthOk.f
  by_cases h0 : i = 0
  · subst h0
    rw [if_pos (show ((0 : Nat) : Int) = 0 by rfl), if_pos (by omega)]
    have : rd_T58 l 0 = l.getD 0 z58 := rdN l 0
    rw [this]
    congr 1
    by_cases hz : dep l 0 = 0
    · rw [decide_eq_true ⟨fun _ => hz, fun h => by omega⟩]; show (dep l 0 == 0) = true; rw [hz]; rfl
    · rw [decide_eq_false (fun h => hz (h.1 rfl))]; show (dep l 0 == 0) = false; exact beq_eq_false_iff_ne.mpr hz
  · have hp := hp (by omega)
    have c3 : ¬ ((i : Int) = 0) := by omega
    have c4 : (0 : Int) ≤ (i : Int) := by omega
    have c5 : (i : Int) < (l.length : Int) := by omega
    have c6 : (0 : Int) ≤ ((i - 1 : Nat) : Int) := by omega
    have c7 : ((i - 1 : Nat) : Int) < (l.length : Int) := by omega
    have e3 : wrap64 ((i : Int) - 1) = ((i - 1 : Nat) : Int) := by rw [w64 (by omega) (by omega)]; omega
    rw [if_neg c3, if_pos c4, if_pos c5, e3, if_pos c6, if_pos c7, rdN, rdN]
    have e5 : wrap64 (dep l (i - 1) + 1) = dep l (i - 1) + 1 := w64 (by omega) (by omega)
    rw [e5, impl_within_eq]
    simp only [Option.bind_some]
    congr 1
    by_cases hz : 1 ≤ dep l i ∧ dep l i ≤ dep l (i - 1) + 1
    · rw [decide_eq_true hz, decide_eq_true ⟨fun h => absurd h h0, fun _ => hz⟩]
    · rw [decide_eq_false hz, decide_eq_false (fun h => hz (h.2 (by omega)))]

/-! impl_TreeOk -/
theorem impl_TreeOk_l0 (l : List S58) (hl : l.length ≤ 1048576) (hlen : 1 ≤ l.length ∧ l.length ≤ 24) (d : Nat) : ∀ i : Nat, i + d = l.length → (∀ j, j < i → nodeOk (lab l) (dep l) j) → Ev (fun k => impl_TreeOk.l0 k l l l.length i) (treeB (lab l) (dep l) l.length) := by
  induction d with
  | zero =>
    intro i hi hall
    refine Ev.step (fun k => by simp only [impl_TreeOk.l0]; rw [if_neg (by omega)]) ?_
    refine evSome ?_
    have e : i = l.length := by omega
    rw [treeB_all (by rw [← e]; exact hall), decide_eq_true hlen]
  | succ d ih =>
    intro i hi hall
    have hil : i < l.length := by omega
    have c1 : (i : Int) < (l.length : Int) := by omega
    have c2 : (0 : Int) ≤ (i : Int) := by omega
    refine Ev.step (fun k => by simp only [impl_TreeOk.l0]; rw [if_pos c1, if_pos c2, if_pos c1]) ?_
    have hd := impl_depthOk_eq l i hil hl (fun h0 => by
      have hp := hall (i - 1) (by omega)
      have := hp.2.2.1
      exact ⟨by omega, hp.2.2.2.1⟩)
    have e4 : wrap64 ((i : Int) + 1) = ((i + 1 : Nat) : Int) := by rw [w64 (by omega) (by omega)]; rfl
    simp only [impl_LabelOk_eq, impl_within_eq, hd, Option.bind_some, rdN, decide_eq_true_eq, e4]
    by_cases h1 : 0 ≤ lab l i ∧ lab l i ≤ 5
    · simp only [if_pos h1]
      by_cases h2 : 0 ≤ dep l i ∧ dep l i ≤ 12
      · simp only [if_pos h2]
        by_cases h3 : (i = 0 → dep l i = 0) ∧ (0 < i → 1 ≤ dep l i ∧ dep l i ≤ dep l (i - 1) + 1)
        · simp only [if_pos h3]
          refine ih (i + 1) (by omega) (fun j hj => ?_)
          by_cases hji : j < i
          · exact hall j hji
          · have : j = i := by omega
            subst this; exact ⟨h1.1, h1.2, h2.1, h2.2, h3.1, h3.2⟩
        · simp only [if_neg h3]
          exact evSome (treeB_no hil (fun h => h3 ⟨h.2.2.2.2.1, h.2.2.2.2.2⟩)).symm
      · simp only [if_neg h2]
        exact evSome (treeB_no hil (fun h => h2 ⟨h.2.2.1, h.2.2.2.1⟩)).symm
    · simp only [if_neg h1]
      exact evSome (treeB_no hil (fun h => h1 ⟨h.1, h.2.1⟩)).symm
theorem impl_TreeOk_ev (l : List S58) (hl : l.length ≤ 1048576) : Ev (fun k => impl_TreeOk.f k l) (treeB (lab l) (dep l) l.length) := by
  unfold impl_TreeOk.f
  simp only [impl_within_eq, Option.bind_some, decide_eq_true_eq]
  by_cases h : (1 : Int) ≤ (l.length : Int) ∧ (l.length : Int) ≤ 24
  · simp only [if_pos h]
    exact impl_TreeOk_l0 l hl (by omega) l.length 0 (by omega) (fun j hj => by omega)
  · simp only [if_neg h]
    exact evSome (treeB_len (by omega)).symm

/-! impl_endOf -/
theorem impl_endOf_l0 (l : List S58) (hl : l.length ≤ 1048576) (i : Nat) (hi : i < l.length) (d : Nat) : ∀ j : Nat, j + d = l.length → Ev (fun k => impl_endOf.l0 k l i j) ((endGo (dep l) (dep l i) d j : Nat) : Int) := by
  induction d with
  | zero =>
    intro j hj
    exact Ev.step (f := fun _ => some ((j : Nat) : Int)) (fun k => by simp only [impl_endOf.l0]; rw [if_neg (by omega)]) (Ev.now _)
  | succ d ih =>
    intro j hj
    have c1 : (j : Int) < (l.length : Int) := by omega
    have c2 : (0 : Int) ≤ (j : Int) := by omega
    have c3 : (0 : Int) ≤ (i : Int) := by omega
    have c4 : (i : Int) < (l.length : Int) := by omega
    have e4 : wrap64 ((j : Int) + 1) = ((j + 1 : Nat) : Int) := by rw [w64 (by omega) (by omega)]; rfl
    refine Ev.step (fun k => by simp only [impl_endOf.l0]; rw [if_pos c1, if_pos c2, if_pos c3, if_pos c4, e4, rdN, rdN]) ?_
    simp only [endGo]
    by_cases h : dep l j > dep l i
    · simp only [if_pos h]; exact ih (j + 1) (by omega)
    · simp only [if_neg h]; exact Ev.now _

theorem impl_endOf_ev (l : List S58) (hl : l.length ≤ 1048576) (i : Nat) (hi : i < l.length) : Ev (fun k => impl_endOf.f k l i) ((endI (dep l) l.length i : Nat) : Int) := by
  unfold impl_endOf.f
  have e4 : wrap64 ((i : Int) + 1) = ((i + 1 : Nat) : Int) := by rw [w64 (by omega) (by omega)]; rfl
  simp only [e4]
  exact impl_endOf_l0 l hl i hi (l.length - (i + 1)) (i + 1) (by omega)

/-! impl_PostOrder -/
theorem ends_ev (l : List S58) (hl : l.length ≤ 1048576) : ∀ m : Nat, m ≤ l.length → ∃ K, ∀ k, K ≤ k → ∀ i : Nat, i < m → impl_endOf.f k l (i : Int) = some ((endI (dep l) l.length i : Nat) : Int) := by
  intro m
  induction m with
  | zero => intro _; exact ⟨0, fun k _ i hi => by omega⟩
  | succ m ih =>
    intro hm
    obtain ⟨K, hK⟩ := ih (by omega)
    obtain ⟨K2, hK2⟩ := impl_endOf_ev l hl m (by omega)
    refine ⟨max K K2, fun k hk i hi => ?_⟩
    by_cases c : i = m
    · subst c; exact hK2 k (by omega)
    · exact hK k (by omega) i (by omega)
theorem impl_PostOrder_ev (l : List S58) (hl : l.length ≤ 1048576) : Ev (fun k => impl_PostOrder.f k l) (postT l) := by
  unfold impl_PostOrder.f postT
  refine Ev.bind (impl_TreeOk_ev l hl) ?_
  by_cases h : treeB (lab l) (dep l) l.length = true
  · rw [if_pos h]
    have ht := treeB_iff.1 h
    have hn := ht.1
    simp only [if_pos h]
    rw [postN_eq (V.sorted_post ht)]
    obtain ⟨K, hK⟩ := ends_ev l hl l.length (Nat.le_refl _)
    refine ⟨K, fun k hk => ?_⟩
    have hE : ∀ i, i < l.length → impl_PostOrder.E k l i = V.endE (dep l) l.length i := by
      intro i hi
      unfold impl_PostOrder.E V.endE
      rw [hK k hk i hi]
      rfl
    have hc : S.cmpE (impl_PostOrder.E k l) l.length = S.cmpE (V.endE (dep l) l.length) l.length := by
      funext x y
      unfold S.cmpE
      rw [hE _ (by omega), hE _ (by omega)]
    have hok : impl_PostOrder.ok k l := by
      refine ⟨by omega, by omega, fun i hi => by rw [hK k hk i hi]; rfl, ?_⟩
      have hsw := S.swo_to _ _ (by omega) (V.swo_rank ht)
      unfold S.swoF at hsw ⊢
      rw [hc]
      exact hsw
    simp only [if_pos hok]
    unfold S.sorted
    rw [hc]
  · rw [if_neg h]
    simp only [if_neg h]
    exact Ev.now _

/-! impl_RankOf -/
theorem impl_RankOf_l0 (p : List Int) (hp : p.length ≤ 1048576) (hr : ∀ x ∈ p, 0 ≤ x ∧ x < (p.length : Int)) (d : Nat) : ∀ (j : Nat) (acc : List Int), j + d = p.length → acc.length = p.length → Ev (fun k => impl_RankOf.l0 k acc p p.length j) (X.setGo (p.drop j) j acc) := by
  induction d with
  | zero =>
    intro j acc hj ha
    rw [List.drop_of_length_le (by omega)]
    have c0 : ¬ ((j : Int) < (p.length : Int)) := by omega
    exact Ev.step (f := fun _ => some acc) (fun k => by simp only [impl_RankOf.l0]; rw [if_neg c0]) (Ev.now _)
  | succ d ih =>
    intro j acc hj ha
    have hjl : j < p.length := by omega
    have c0 : (j : Int) < (p.length : Int) := by omega
    have c1 : (0 : Int) ≤ (j : Int) := by omega
    have hx := hr _ (getD_in p j hjl)
    have c2 : (0 : Int) ≤ p.getD j 0 := hx.1
    have c3 : p.getD j 0 < (acc.length : Int) := by rw [ha]; exact hx.2
    have e4 : wrap64 ((j : Int) + 1) = ((j + 1 : Nat) : Int) := by rw [w64 (by omega) (by omega)]; rfl
    refine Ev.step (fun k => by simp only [impl_RankOf.l0]; rw [if_pos c0, if_pos c1, if_pos c0, rdD, if_pos c2, if_pos c3, e4]) ?_
    rw [dropD p j hjl]
    simp only [X.setGo]
    have := ih (j + 1) (acc.set (p.getD j 0).toNat (j : Int)) (by omega) (by rw [List.length_set, ha])
    rw [show (((j + 1 : Nat) : Int)) = (j : Int) + 1 by omega] at this ⊢
    exact this
theorem impl_RankOf_ev (l : List S58) (hl : l.length ≤ 1048576) : Ev (fun k => impl_RankOf.f k l) (ranksT l) := by
  unfold impl_RankOf.f ranksT
  have hs := postT_small l hl
  refine Ev.bind (impl_PostOrder_ev l hl) ?_
  have c1 : (0 : Int) ≤ ((postT l).length : Int) := by omega
  have c2 : (postT l).length ≤ 35184372088832 := by omega
  simp only [if_pos c1, Int.toNat_natCast, if_pos c2]
  have := impl_RankOf_l0 (postT l) hs (fun x hx => postT_range l x hx) (postT l).length 0 (List.replicate (postT l).length 0) (by omega) (by rw [List.length_replicate])
  simpa only [List.drop_zero, Int.natCast_zero] using this

/-! impl_LeftLeaf -/
theorem impl_LeftLeaf_l0 (l : List S58) (hl : l.length ≤ 1048576) (d : Nat) : ∀ (j : Nat) (acc : List Int), j + d = (postT l).length → acc.length = j → Ev (fun k => impl_LeftLeaf.l0 k l acc (ranksT l) (postT l) (postT l).length j) (acc ++ ((postT l).drop j).map fun x => x - dep l x.toNat) := by
  have hs := postT_small l hl
  induction d with
  | zero =>
    intro j acc hj ha
    rw [List.drop_of_length_le (by omega), List.map_nil, List.append_nil]
    have c0 : ¬ ((j : Int) < ((postT l).length : Int)) := by omega
    exact Ev.step (f := fun _ => some acc) (fun k => by simp only [impl_LeftLeaf.l0]; rw [if_neg c0]) (Ev.now _)
  | succ d ih =>
    intro j acc hj ha
    have hjl : j < (postT l).length := by omega
    obtain ⟨ht, i, hi, hil⟩ := postT_node l _ (getD_in (postT l) j hjl)
    have hn := postT_n l ht
    have hrl := ranksT_len l
    have hend := endI_le (dep l) l.length i hil
    have hdr := dep_range ht hil
    have c0 : (j : Int) < ((postT l).length : Int) := by omega
    have c1 : (0 : Int) ≤ (j : Int) := by omega
    have c2 : (0 : Int) ≤ (i : Int) := by omega
    have c3 : (i : Int) < ((ranksT l).length : Int) := by omega
    have c4 : acc.length < 17592186044416 := by omega
    have e4 : wrap64 ((j : Int) + 1) = ((j + 1 : Nat) : Int) := by rw [w64 (by omega) (by omega)]; rfl
    have e5 : wrap64 (((endI (dep l) l.length i : Nat) : Int) - (i : Int)) = ((endI (dep l) l.length i : Nat) : Int) - (i : Int) := w64 (by omega) (by omega)
    have e6 : wrap64 (((endI (dep l) l.length i : Nat) : Int) - (i : Int) - 1) = ((endI (dep l) l.length i : Nat) : Int) - (i : Int) - 1 := w64 (by omega) (by omega)
    have e7 : wrap64 (rnk (dep l) l.length i - (((endI (dep l) l.length i : Nat) : Int) - (i : Int) - 1)) = (i : Int) - dep l i := by unfold rnk; rw [w64 (by omega) (by omega)]; omega
    refine Ev.step (fun k => by simp only [impl_LeftLeaf.l0]; rw [if_pos c0, if_pos c1, if_pos c0, rdD, hi, if_pos c2, if_pos c3]) ?_
    refine Ev.bind (impl_endOf_ev l hl i hil) ?_
    simp only [if_pos c4, e5, e6, rdD, ranksT_get l ht i hil, e7, e4]
    have := ih (j + 1) (acc ++ [(i : Int) - dep l i]) (by omega) (by simp; omega)
    rw [dropD (postT l) j hjl, List.map_cons, hi, Int.toNat_natCast]
    simpa only [List.append_assoc, List.cons_append, List.nil_append] using this
theorem impl_LeftLeaf_ev (l : List S58) (hl : l.length ≤ 1048576) : Ev (fun k => impl_LeftLeaf.f k l) (leafT l) := by
  unfold impl_LeftLeaf.f leafT
  refine Ev.bind (impl_RankOf_ev l hl) (Ev.bind (impl_PostOrder_ev l hl) ?_)
  have := impl_LeftLeaf_l0 l hl (postT l).length 0 [] (by omega) (by simp)
  simpa only [List.drop_zero, Int.natCast_zero, List.nil_append] using this

/-! slices_Index_int_int -/
theorem sIndex_l0 (x : Int) (xs : List Int) (hx : xs.length ≤ 1048576) (d : Nat) : ∀ j : Nat, j + d = xs.length → Ev (fun k => slices_Index_int_int.l0 k xs x xs.length j) (idxGo x (xs.drop j) j) := by
  induction d with
  | zero =>
    intro j hj
    rw [List.drop_of_length_le (by omega)]
    exact Ev.step (f := fun _ => some (-1)) (fun k => by simp only [slices_Index_int_int.l0]; rw [if_neg (by omega)]) (Ev.now _)
  | succ d ih =>
    intro j hj
    have hjl : j < xs.length := by omega
    have c1 : (j : Int) < (xs.length : Int) := by omega
    have c2 : (0 : Int) ≤ (j : Int) := by omega
    have e4 : wrap64 ((j : Int) + 1) = ((j + 1 : Nat) : Int) := by rw [w64 (by omega) (by omega)]; rfl
    have er : rd xs (j : Int) = xs[j] := by unfold rd; simp [List.getD_eq_getElem?_getD, List.getElem?_eq_getElem hjl]
    rw [List.drop_eq_getElem_cons hjl]
    refine Ev.step (fun k => by simp only [slices_Index_int_int.l0]; rw [if_pos c1, if_pos c2, if_pos c1, e4, er]) ?_
    simp only [idxGo]
    by_cases h : x = xs[j]
    · simp only [if_pos h]; exact Ev.now _
    · simp only [if_neg h]; exact ih (j + 1) (by omega)
theorem sIndex_ev (x : Int) (xs : List Int) (hx : xs.length ≤ 1048576) : Ev (fun k => slices_Index_int_int.f k xs x) (idxGo x xs 0) := by
  unfold slices_Index_int_int.f
  have := sIndex_l0 x xs hx _ 0 (Nat.zero_add _)
  simpa using this

/-! slices_Contains_int_int -/
theorem contains_ev (x : Int) (xs : List Int) (hx : xs.length ≤ 1048576) : Ev (fun k => slices_Contains_int_int.f k xs x) (decide (x ∈ xs)) := by
  unfold slices_Contains_int_int.f
  refine Ev.bind (sIndex_ev x xs hx) ?_
  exact evSome (X.idxGo_mem x xs 0)

/-! impl_KeyRoots -/
theorem impl_KeyRoots_l0 (f : List Int) (hf : f.length ≤ 1048576) (d : Nat) : ∀ (j : Nat) (acc : List Int), j + d = f.length → acc.length ≤ j → Ev (fun k => impl_KeyRoots.l0 k acc f f f.length j) (acc ++ X.rootGo f d j) := by
  induction d with
  | zero =>
    intro j acc hj ha
    have c0 : ¬ ((j : Int) < (f.length : Int)) := by omega
    simp only [X.rootGo, List.append_nil]
    exact Ev.step (f := fun _ => some acc) (fun k => by simp only [impl_KeyRoots.l0]; rw [if_neg c0]) (Ev.now _)
  | succ d ih =>
    intro j acc hj ha
    have c0 : (j : Int) < (f.length : Int) := by omega
    have c1 : (0 : Int) ≤ (j : Int) := by omega
    have c2 : (0 : Int) ≤ ((j + 1 : Nat) : Int) := by omega
    have c3 : ((j + 1 : Nat) : Int) ≤ (f.length : Int) := by omega
    have c4 : acc.length < 17592186044416 := by omega
    have e4 : wrap64 ((j : Int) + 1) = ((j + 1 : Nat) : Int) := by rw [w64 (by omega) (by omega)]; rfl
    refine Ev.step (fun k => by simp only [impl_KeyRoots.l0]; rw [if_pos c0, if_pos c1, if_pos c0, e4, if_pos c2, if_pos c3, Int.toNat_natCast, rdD]) ?_
    refine Ev.bind (contains_ev _ _ (by rw [List.length_drop]; omega)) ?_
    simp only [X.rootGo, X.lastB]
    by_cases h : f.getD j 0 ∈ f.drop (j + 1)
    · have h2 : decide (f.getD j 0 ∈ f.drop (j + 1)) = true := decide_eq_true h
      simp only [h2, if_true, Bool.not_true, Bool.false_eq_true, if_false]
      exact ih (j + 1) acc (by omega) (by omega)
    · have h2 : decide (f.getD j 0 ∈ f.drop (j + 1)) = false := decide_eq_false h
      simp only [h2, Bool.not_false, Bool.false_eq_true, if_false, if_true, if_pos c4]
      have := ih (j + 1) (acc ++ [(j : Int)]) (by omega) (by simp; omega)
      simpa only [List.append_assoc, List.cons_append, List.nil_append] using this
theorem impl_KeyRoots_ev (l : List S58) (hl : l.length ≤ 1048576) : Ev (fun k => impl_KeyRoots.f k l) (rootsT l) := by
  unfold impl_KeyRoots.f rootsT
  refine Ev.bind (impl_LeftLeaf_ev l hl) ?_
  have := impl_KeyRoots_l0 (leafT l) (leafT_small l hl) (leafT l).length 0 [] (by omega) (by simp)
  simpa only [Int.natCast_zero, List.nil_append] using this

/-! impl_CellsIn -/
theorem impl_CellsIn_l1 (a b : List S58) (d : Nat) : ∀ j : Nat, j + d = (rootsT b).length → Ev (fun k => impl_CellsIn.l1 k (cellsT a) (X.sumL (((rootsT b).take j).map (termT b))) (leafT b) (rootsT b) (rootsT b).length j) (cellsT a * cellsT b) := by
  have hlen := rootsT_len b
  have hca := cellsT_range a
  have hcb := cellsT_range b
  induction d with
  | zero =>
    intro j hj
    have c0 : ¬ ((j : Int) < ((rootsT b).length : Int)) := by omega
    have e : (rootsT b).take j = rootsT b := List.take_of_length_le (by omega)
    have hm := mul_range hca hcb
    have e2 : wrap64 (cellsT a * cellsT b) = cellsT a * cellsT b := w64 (by omega) (by omega)
    rw [e]
    refine Ev.step (fun k => by simp only [impl_CellsIn.l1]; rw [if_neg c0]) ?_
    change Ev (fun _ => some (wrap64 (cellsT a * cellsT b))) _
    rw [e2]
    exact Ev.now _
  | succ d ih =>
    intro j hj
    have hjl : j < (rootsT b).length := by omega
    have hin := getD_in (rootsT b) j hjl
    have hr := rootsT_range b _ hin
    have ht := termT_range b _ hin
    have hp := part_range b ((rootsT b).take j) (fun x h => List.mem_of_mem_take h) (by rw [List.length_take]; omega)
    have c0 : (j : Int) < ((rootsT b).length : Int) := by omega
    have c1 : (0 : Int) ≤ (j : Int) := by omega
    have c2 := hr.1
    have c3 := hr.2
    have e4 : wrap64 ((j : Int) + 1) = ((j + 1 : Nat) : Int) := by rw [w64 (by omega) (by omega)]; rfl
    have e5 : wrap64 (X.sumL (((rootsT b).take j).map (termT b)) + termT b ((rootsT b).getD j 0)) = X.sumL (((rootsT b).take (j + 1)).map (termT b)) := by rw [take_roots b j hjl]; exact w64 (by omega) (by omega)
    refine Ev.step (fun k => by simp only [impl_CellsIn.l1]; rw [if_pos c0, if_pos c1, if_pos c0, rdD, if_pos c2, if_pos c3, term_wrap b _ hin, e5, e4]) ?_
    exact ih (j + 1) (by omega)
theorem impl_CellsIn_l0 (a b : List S58) (hb : b.length ≤ 1048576) (d : Nat) : ∀ j : Nat, j + d = (rootsT a).length → Ev (fun k => impl_CellsIn.l0 k b (X.sumL (((rootsT a).take j).map (termT a))) 0 (leafT a) (leafT b) (rootsT a) (rootsT a).length j) (cellsT a * cellsT b) := by
  have hlen := rootsT_len a
  induction d with
  | zero =>
    intro j hj
    have c0 : ¬ ((j : Int) < ((rootsT a).length : Int)) := by omega
    have e : (rootsT a).take j = rootsT a := List.take_of_length_le (by omega)
    rw [e]
    refine Ev.step (fun k => by simp only [impl_CellsIn.l0]; rw [if_neg c0]) ?_
    refine Ev.bind (impl_KeyRoots_ev b hb) ?_
    have := impl_CellsIn_l1 a b (rootsT b).length 0 (by omega)
    simpa only [List.take_zero, List.map_nil, X.sumL, Int.natCast_zero, cellsT] using this
  | succ d ih =>
    intro j hj
    have hjl : j < (rootsT a).length := by omega
    have hin := getD_in (rootsT a) j hjl
    have hr := rootsT_range a _ hin
    have ht := termT_range a _ hin
    have hp := part_range a ((rootsT a).take j) (fun x h => List.mem_of_mem_take h) (by rw [List.length_take]; omega)
    have c0 : (j : Int) < ((rootsT a).length : Int) := by omega
    have c1 : (0 : Int) ≤ (j : Int) := by omega
    have c2 := hr.1
    have c3 := hr.2
    have e4 : wrap64 ((j : Int) + 1) = ((j + 1 : Nat) : Int) := by rw [w64 (by omega) (by omega)]; rfl
    have e5 : wrap64 (X.sumL (((rootsT a).take j).map (termT a)) + termT a ((rootsT a).getD j 0)) = X.sumL (((rootsT a).take (j + 1)).map (termT a)) := by rw [take_roots a j hjl]; exact w64 (by omega) (by omega)
    refine Ev.step (fun k => by simp only [impl_CellsIn.l0]; rw [if_pos c0, if_pos c1, if_pos c0, rdD, if_pos c2, if_pos c3, term_wrap a _ hin, e5, e4]) ?_
    exact ih (j + 1) (by omega)
theorem impl_CellsIn_ev (a b : List S58) (ha : a.length ≤ 1048576) (hb : b.length ≤ 1048576) : Ev (fun k => impl_CellsIn.f k a b) (cellsT a * cellsT b) := by
  unfold impl_CellsIn.f
  refine Ev.bind (impl_TreeOk_ev a ha) ?_
  by_cases h : treeB (lab a) (dep a) a.length = true
  · simp only [if_pos h]
    refine Ev.bind (impl_TreeOk_ev b hb) ?_
    refine Ev.step (fun k => by rw [impl_CellsIn.j0]) ?_
    by_cases h2 : treeB (lab b) (dep b) b.length = true
    · simp only [h2, Bool.not_true, Bool.false_eq_true, if_false]
      refine Ev.bind (impl_LeftLeaf_ev a ha) (Ev.bind (impl_LeftLeaf_ev b hb) (Ev.bind (impl_KeyRoots_ev a ha) ?_))
      have := impl_CellsIn_l0 a b hb (rootsT a).length 0 (by omega)
      simpa only [List.take_zero, List.map_nil, X.sumL, Int.natCast_zero] using this
    · have h3 := Bool.eq_false_iff.mpr h2
      simp only [h3, Bool.not_false, if_true]
      rw [cellsT_no b h2, Int.mul_zero]
      exact Ev.now _
  · simp only [if_neg h]
    refine Ev.step (fun k => by rw [impl_CellsIn.j0]) ?_
    simp only [if_true]
    rw [cellsT_no a h, Int.zero_mul]
    exact Ev.now _

/-! spec_l3At -/
theorem spec_l3At_ev (l : List S58) (hl : l.length ≤ 1048576) (a : Int) : Ev (fun k => spec_l3At.f k l a) (atB (lab l) (dep l) l.length a) := by
  unfold spec_l3At.f
  refine Ev.bind (spec_TreeOk_ev l hl) ?_
  have e : wrap64 ((l.length : Int) - 1) = (l.length : Int) - 1 := w64 (by omega) (by omega)
  simp only [spec_l1In_eq, Option.bind_some, e, atB]
  by_cases h : treeB (lab l) (dep l) l.length = true
  · simp only [h, if_true, Bool.true_and]; exact Ev.now _
  · simp only [Bool.eq_false_iff.mpr h, Bool.false_eq_true, if_false, Bool.false_and]; exact Ev.now _

/-! spec_EndOf -/
theorem spec_EndOf_l0 (l : List S58) (hl : l.length ≤ 1048576) (i : Nat) (hi : i < l.length) (d : Nat) : ∀ j : Nat, j + d = l.length → Ev (fun k => spec_EndOf.l0 k l i j) ((endGo (dep l) (dep l i) d j : Nat) : Int) := by
  induction d with
  | zero =>
    intro j hj
    exact Ev.step (f := fun _ => some ((j : Nat) : Int)) (fun k => by simp only [spec_EndOf.l0]; rw [if_neg (by omega)]) (Ev.now _)
  | succ d ih =>
    intro j hj
    have c1 : (j : Int) < (l.length : Int) := by omega
    have c2 : (0 : Int) ≤ (j : Int) := by omega
    have c3 : (0 : Int) ≤ (i : Int) := by omega
    have c4 : (i : Int) < (l.length : Int) := by omega
    have e4 : wrap64 ((j : Int) + 1) = ((j + 1 : Nat) : Int) := by rw [w64 (by omega) (by omega)]; rfl
    refine Ev.step (fun k => by simp only [spec_EndOf.l0]; rw [if_pos c1, if_pos c2, if_pos c3, if_pos c4, e4, rdN, rdN]) ?_
    simp only [endGo]
    by_cases h : dep l j > dep l i
    · simp only [if_pos h]; exact ih (j + 1) (by omega)
    · simp only [if_neg h]; exact Ev.now _

theorem spec_EndOf_ev (l : List S58) (hl : l.length ≤ 1048576) (a : Int) : Ev (fun k => spec_EndOf.f k l a) (if atB (lab l) (dep l) l.length a = true then ((endI (dep l) l.length a.toNat : Nat) : Int) else -1) := by
  unfold spec_EndOf.f
  refine Ev.bind (spec_l3At_ev l hl a) ?_
  by_cases h : atB (lab l) (dep l) l.length a = true
  · obtain ⟨i, rfl, hi, _⟩ := atB_nat h
    have e4 : wrap64 ((i : Int) + 1) = ((i + 1 : Nat) : Int) := by rw [w64 (by omega) (by omega)]; rfl
    simp only [if_pos h, e4, Int.toNat_natCast]
    exact spec_EndOf_l0 l hl i hi (l.length - (i + 1)) (i + 1) (by omega)
  · simp only [if_neg h]; exact Ev.now _

/-! spec_LeavesOf -/
theorem spec_LeavesOf_l0 (l : List S58) (hl : l.length ≤ 1048576) (hb : treeB (lab l) (dep l) l.length = true) (d : Nat) : ∀ (j : Nat) (a : Int), j + d = l.length → 0 ≤ a → a ≤ j → Ev (fun k => spec_LeavesOf.l0 k l a j) (leafGo (dep l) l.length d j a) := by
  induction d with
  | zero =>
    intro j a hj h0 h1
    refine Ev.step (fun k => by rw [spec_LeavesOf.l0, if_neg (show ¬ (j : Int) < (l.length : Int) by omega)]) ?_
    refine Ev.step (fun k => by rw [spec_LeavesOf.j1]) ?_
    simp only [Bool.false_eq_true, if_false]; exact Ev.now _
  | succ d ih =>
    intro j a hj h0 h1
    have hjl : j < l.length := by omega
    have c1 : (j : Int) < (l.length : Int) := by omega
    have hat : atB (lab l) (dep l) l.length (j : Int) = true := atB_iff.2 ⟨treeB_iff.1 hb, by omega, by omega⟩
    have e4 : wrap64 ((j : Int) + 1) = ((j + 1 : Nat) : Int) := by rw [w64 (by omega) (by omega)]; rfl
    have e5 : wrap64 (a + 1) = a + 1 := w64 (by omega) (by omega)
    refine Ev.step (fun k => by rw [spec_LeavesOf.l0, if_pos c1]) ?_
    refine Ev.bind (spec_TreeOk_ev l hl) ?_
    refine Ev.step (fun k => by rw [spec_LeavesOf.j1]) ?_
    simp only [if_pos hb]
    refine Ev.bind (spec_EndOf_ev l hl _) ?_
    simp only [if_pos hat, Int.toNat_natCast, e4, leafGo]
    by_cases he : endI (dep l) l.length j = j + 1
    · have he' : ((endI (dep l) l.length j : Nat) : Int) = ((j + 1 : Nat) : Int) := by omega
      simp only [if_pos he, if_pos he', e5]
      exact ih (j + 1) _ (by omega) (by omega) (by omega)
    · have he' : ¬ ((endI (dep l) l.length j : Nat) : Int) = ((j + 1 : Nat) : Int) := by omega
      simp only [if_neg he, if_neg he']
      exact ih (j + 1) _ (by omega) (by omega) (by omega)
theorem spec_LeavesOf_ev (l : List S58) (hl : l.length ≤ 1048576) : Ev (fun k => spec_LeavesOf.f k l) (leavesT l) := by
  unfold spec_LeavesOf.f leavesT
  by_cases h : treeB (lab l) (dep l) l.length = true
  · rw [if_pos h]
    exact spec_LeavesOf_l0 l hl h l.length 0 0 (by omega) (by omega) (by omega)
  · rw [if_neg h]
    by_cases h0 : (0 : Int) < (l.length : Int)
    · refine Ev.step (fun k => by rw [spec_LeavesOf.l0, if_pos h0]) ?_
      refine Ev.bind (spec_TreeOk_ev l hl) ?_
      refine Ev.step (fun k => by rw [spec_LeavesOf.j1]) ?_
      simp only [if_neg h]; exact Ev.now _
    · refine Ev.step (fun k => by rw [spec_LeavesOf.l0, if_neg h0]) ?_
      refine Ev.step (fun k => by rw [spec_LeavesOf.j1]) ?_
      simp only [Bool.false_eq_true, if_false]; exact Ev.now _

/-! spec_KidsOf -/
theorem spec_KidsOf_l0 (l : List S58) (hl : l.length ≤ 1048576) (i : Nat) (hat : atB (lab l) (dep l) l.length i = true) (d : Nat) : ∀ (j : Nat) (acc : List Int), j + d = endI (dep l) l.length i → acc.length ≤ j → Ev (fun k => spec_KidsOf.l0 k l i acc j) (acc ++ kidGo (dep l) (dep l i + 1) d j) := by
  obtain ⟨i', hi', hi, ht⟩ := atB_nat hat
  have hii : i' = i := by omega
  rw [hii] at hi
  clear hi' hii
  have hel := endI_le (dep l) l.length i hi
  have hdr := dep_range ht hi
  have e5 : wrap64 (dep l i + 1) = dep l i + 1 := w64 (by omega) (by omega)
  induction d with
  | zero =>
    intro j acc hj ha
    refine Ev.step (fun k => by rw [spec_KidsOf.l0]) ?_
    refine Ev.bind (spec_l3At_ev l hl _) ?_
    simp only [if_pos hat]
    refine Ev.bind (spec_EndOf_ev l hl _) ?_
    simp only [if_pos hat, Int.toNat_natCast]
    rw [decide_eq_false (by omega)]
    refine Ev.step (fun k => by rw [spec_KidsOf.j1]) ?_
    simp only [Bool.false_eq_true, if_false, kidGo, List.append_nil]; exact Ev.now _
  | succ d ih =>
    intro j acc hj ha
    refine Ev.step (fun k => by rw [spec_KidsOf.l0]) ?_
    refine Ev.bind (spec_l3At_ev l hl _) ?_
    simp only [if_pos hat]
    refine Ev.bind (spec_EndOf_ev l hl _) ?_
    simp only [if_pos hat, Int.toNat_natCast]
    rw [decide_eq_true (by omega)]
    have c1 : (j : Int) < (l.length : Int) := by omega
    have c2 : (0 : Int) ≤ (j : Int) := by omega
    have c3 : (0 : Int) ≤ (i : Int) := by omega
    have c4 : (i : Int) < (l.length : Int) := by omega
    have e4 : wrap64 ((j : Int) + 1) = ((j + 1 : Nat) : Int) := by rw [w64 (by omega) (by omega)]; rfl
    refine Ev.step (fun k => by rw [spec_KidsOf.j1]) ?_
    simp only [if_true, if_pos c2, if_pos c1, if_pos c3, if_pos c4, e4, rdN, e5, kidGo]
    by_cases h : dep l j = dep l i + 1
    · have hl1 : acc.length < 17592186044416 := by omega
      simp only [if_pos h, if_pos hl1]
      have := ih (j + 1) (acc ++ [(j : Int)]) (by omega) (by simp; omega)
      simpa only [List.append_assoc, List.cons_append, List.nil_append] using this
    · simp only [if_neg h]
      exact ih (j + 1) acc (by omega) (by omega)

theorem spec_KidsOf_ev (l : List S58) (hl : l.length ≤ 1048576) (a : Int) (hw : -9223372036854775808 ≤ a ∧ a ≤ 9223372036854775807) : Ev (fun k => spec_KidsOf.f k l a) (if atB (lab l) (dep l) l.length a = true then kidsI (dep l) l.length a.toNat else []) := by
  unfold spec_KidsOf.f
  by_cases h : atB (lab l) (dep l) l.length a = true
  · obtain ⟨i, rfl, hi, _⟩ := atB_nat h
    have e4 : wrap64 ((i : Int) + 1) = ((i + 1 : Nat) : Int) := by rw [w64 (by omega) (by omega)]; rfl
    have hel := endI_le (dep l) l.length i hi
    simp only [if_pos h, e4, Int.toNat_natCast]
    have := spec_KidsOf_l0 l hl i h (endI (dep l) l.length i - (i + 1)) (i + 1) [] (by omega) (by simp)
    rw [List.nil_append] at this
    exact this
  · simp only [if_neg h]
    refine Ev.step (fun k => by rw [spec_KidsOf.l0]) ?_
    refine Ev.bind (spec_l3At_ev l hl _) ?_
    simp only [if_neg h]
    refine Ev.step (fun k => by rw [spec_KidsOf.j1]) ?_
    simp only [Bool.false_eq_true, if_false]; exact Ev.now _

/-! spec_l6Post -/
theorem spec_l6Post_ev (l : List S58) (hl : l.length ≤ 1048576) (ht : treeP (lab l) (dep l) l.length) (m : Nat) : ∀ i : Nat, i < l.length → endI (dep l) l.length i - i ≤ m → ∃ R, isPost (dep l) l.length i R ∧ Ev (fun k => spec_l6Post.f k l (i : Int)) R := by
  induction m with
  | zero =>
    intro i hi hm
    have hel := endI_le (dep l) l.length i hi
    omega
  | succ m ihm =>
    intro i hi hm
    have hel := endI_le (dep l) l.length i hi
    have hat : atB (lab l) (dep l) l.length (i : Int) = true := atB_iff.2 ⟨ht, by omega, by omega⟩
    have loop : ∀ d : Nat, ∀ (p : Nat) (pre acc : List Int), endI (dep l) l.length i - p ≤ d → i < p → p ≤ endI (dep l) l.length i →
        kidsI (dep l) l.length i = pre ++ kidGo (dep l) (dep l i + 1) (endI (dep l) l.length i - p) p → (p = i + 1 ∨ ∃ c, c < p ∧ dep l c = dep l i + 1 ∧ endI (dep l) l.length c = p) →
        isPart (dep l) l.length i p acc → ∃ R, isPost (dep l) l.length i R ∧ Ev (fun k => spec_l6Post.l0 k l i acc (kidsI (dep l) l.length i) pre.length) R := by
      intro d
      induction d with
      | zero =>
        intro p pre acc hd h1 h2 hk hb hp
        have hpe : p = endI (dep l) l.length i := by omega
        subst hpe
        rw [Nat.sub_self] at hk
        simp only [kidGo, List.append_nil] at hk
        have c0 : ¬ ((pre.length : Int) < ((kidsI (dep l) l.length i).length : Int)) := by rw [hk]; omega
        have hal := isPart_all hp
        have c1 : acc.length < 17592186044416 := by omega
        refine ⟨_, isPart_end ht hi hp, ?_⟩
        refine Ev.step (fun k => by rw [spec_l6Post.l0, if_neg c0, if_pos c1]) ?_
        exact Ev.now _
      | succ d ih =>
        intro p pre acc hd h1 h2 hk hb hp
        by_cases hlt : p < endI (dep l) l.length i
        · have hdp := kid_here ht hi h1 hlt hb
          have hnx := kids_next ht hi h1 hlt hdp
          have hm2 := end_mono hi h1 hlt
          have hpl := endI_le (dep l) l.length p (by omega)
          rw [hnx] at hk
          have c0 : (pre.length : Int) < ((kidsI (dep l) l.length i).length : Int) := by rw [hk]; simp; omega
          have c1 : (0 : Int) ≤ (pre.length : Int) := by omega
          have er : rd (kidsI (dep l) l.length i) (pre.length : Int) = (p : Int) := by rw [hk]; unfold rd; simp [List.getD_eq_getElem?_getD]
          have hal := isPart_all hp
          obtain ⟨M, hM, hMe⟩ := ihm p (by omega) (by omega)
          have hMl := hM.2.2
          have c2 : acc.length + M.length < 17592186044416 := by omega
          have e3 : wrap64 ((pre.length : Int) + 1) = (((pre ++ [(p : Int)]).length : Nat) : Int) := by
            have hkl := kids_small l i hi hl
            rw [hk] at hkl
            simp at hkl
            rw [w64 (by omega) (by omega)]; simp
          obtain ⟨R, hR, hRe⟩ := ih (endI (dep l) l.length p) (pre ++ [(p : Int)]) (acc ++ M) (by omega) (by omega) hm2 (by rw [hk]; simp) (.inr ⟨p, by omega, hdp, rfl⟩) (isPart_step ht hi h1 hlt hdp hp hM)
          refine ⟨R, hR, ?_⟩
          refine Ev.step (fun k => by rw [spec_l6Post.l0, if_pos c0, if_pos c1, er]) ?_
          refine Ev.bind hMe ?_
          simp only [if_pos c2, e3]
          exact hRe
        · have hpe : p = endI (dep l) l.length i := by omega
          exact ih p pre acc (by omega) h1 h2 hk hb hp
    obtain ⟨R, hR, hRe⟩ := loop (endI (dep l) l.length i - (i + 1)) (i + 1) [] [] (by omega) (by omega) (by omega) (by rw [List.nil_append]; rfl) (.inl rfl) (isPart_nil _ _ _)
    refine ⟨R, hR, ?_⟩
    refine Ev.step (fun k => by rw [spec_l6Post.f]) ?_
    have hw : -9223372036854775808 ≤ (i : Int) ∧ (i : Int) ≤ 9223372036854775807 := by omega
    refine Ev.bind (spec_KidsOf_ev l hl _ hw) ?_
    simp only [if_pos hat, Int.toNat_natCast]
    exact hRe

/-! spec_PostOrder -/
theorem spec_PostOrder_ev (l : List S58) (hl : l.length ≤ 1048576) : Ev (fun k => spec_PostOrder.f k l) (postT l) := by
  unfold spec_PostOrder.f postT
  refine Ev.bind (spec_TreeOk_ev l hl) ?_
  by_cases h : treeB (lab l) (dep l) l.length = true
  · rw [if_pos h]
    have ht := treeB_iff.1 h
    have hn := ht.1
    simp only [if_pos h]
    obtain ⟨R, hR, hRe⟩ := spec_l6Post_ev l hl ht _ 0 (by omega) (Nat.le_refl _)
    rw [postN_eq hR]
    exact Ev.bind hRe (Ev.now _)
  · rw [if_neg h]
    simp only [if_neg h]
    exact Ev.now _

/-! spec_RankOf -/
theorem spec_RankOf_l0 (p : List Int) (hp : p.length ≤ 1048576) (hr : ∀ x ∈ p, 0 ≤ x ∧ x < (p.length : Int)) (d : Nat) : ∀ (j : Nat) (acc : List Int), j + d = p.length → acc.length = p.length → Ev (fun k => spec_RankOf.l0 k p acc j) (X.setGo (p.drop j) j acc) := by
  induction d with
  | zero =>
    intro j acc hj ha
    rw [List.drop_of_length_le (by omega)]
    have c0 : ¬ ((j : Int) < (p.length : Int)) := by omega
    exact Ev.step (f := fun _ => some acc) (fun k => by simp only [spec_RankOf.l0]; rw [if_neg c0]) (Ev.now _)
  | succ d ih =>
    intro j acc hj ha
    have hjl : j < p.length := by omega
    have c0 : (j : Int) < (p.length : Int) := by omega
    have c1 : (0 : Int) ≤ (j : Int) := by omega
    have hx := hr _ (getD_in p j hjl)
    have c2 : (0 : Int) ≤ p.getD j 0 := hx.1
    have c3 : p.getD j 0 < (acc.length : Int) := by rw [ha]; exact hx.2
    have e4 : wrap64 ((j : Int) + 1) = ((j + 1 : Nat) : Int) := by rw [w64 (by omega) (by omega)]; rfl
    refine Ev.step (fun k => by simp only [spec_RankOf.l0]; rw [if_pos c0, if_pos c1, rdD, if_pos c2, if_pos c3, e4]) ?_
    rw [dropD p j hjl]
    simp only [X.setGo]
    have := ih (j + 1) (acc.set (p.getD j 0).toNat (j : Int)) (by omega) (by rw [List.length_set, ha])
    rw [show (((j + 1 : Nat) : Int)) = (j : Int) + 1 by omega] at this ⊢
    exact this
theorem spec_RankOf_ev (l : List S58) (hl : l.length ≤ 1048576) : Ev (fun k => spec_RankOf.f k l) (ranksT l) := by
  unfold spec_RankOf.f ranksT
  have hs := postT_small l hl
  refine Ev.bind (spec_PostOrder_ev l hl) ?_
  have c1 : (0 : Int) ≤ ((postT l).length : Int) := by omega
  have c2 : (postT l).length ≤ 35184372088832 := by omega
  simp only [if_pos c1, Int.toNat_natCast, if_pos c2]
  have := spec_RankOf_l0 (postT l) hs (fun x hx => postT_range l x hx) (postT l).length 0 (List.replicate (postT l).length 0) (by omega) (by rw [List.length_replicate])
  simpa only [List.drop_zero, Int.natCast_zero] using this

/-! spec_LeftLeaf -/
theorem first_leaf {lb dp : Nat → Int} {n i q : Nat} (ht : treeP lb dp n) (hi : i < n) (h1 : i ≤ q) (h2 : q < endI dp n i) (hd : dp q = dp i + (q - i : Nat)) (hs : q + 1 = endI dp n i ∨ dp (q + 1) ≠ dp q + 1) : rnk dp n q = (i : Int) - dp i := by
  have hei := endI_le dp n i hi
  have heq := endI_le dp n q (by omega)
  have e : endI dp n q = q + 1 := by
    by_cases c : endI dp n q = q + 1
    · exact c
    · exfalso
      have hin := endI_in (dep := dp) (n := n) (i := q) (k := q + 1) (by omega) (by omega)
      by_cases c2 : q + 1 < n
      · have hst := (dep_step ht (i := q + 1) (by omega) c2).2
        rw [Nat.add_sub_cancel] at hst
        rcases hs with hs | hs
        · by_cases c3 : i = q
          · subst c3; omega
          · have := end_mono hi (show i < q by omega) h2; omega
        · omega
      · omega
  unfold rnk
  rw [e, hd]
  omega
theorem spec_LeftLeaf_l1 (l : List S58) (hl : l.length ≤ 1048576) (acc : List Int) (j i : Nat) (R : List Int) (hjl : j < (postT l).length) (hi : (postT l).getD j 0 = (i : Int)) (hil : i < l.length) (ht : treeP (lab l) (dep l) l.length) (ha : acc.length = j)
    (hR : Ev (fun k => spec_LeftLeaf.l0 k l (acc ++ [(i : Int) - dep l i]) (postT l) (ranksT l) ((j + 1 : Nat) : Int)) R) (d : Nat) :
    ∀ q : Nat, q + d + 1 = endI (dep l) l.length i → i ≤ q → dep l q = dep l i + (q - i : Nat) → Ev (fun k => spec_LeftLeaf.l1 k l acc (postT l) (ranksT l) j q) R := by
  have hs := postT_small l hl
  have hn := postT_n l ht
  have hrl := ranksT_len l
  have hend := endI_le (dep l) l.length i hil
  have hat : atB (lab l) (dep l) l.length (i : Int) = true := atB_iff.2 ⟨ht, by omega, by omega⟩
  have c0 : (j : Int) < ((postT l).length : Int) := by omega
  have c1 : (0 : Int) ≤ (j : Int) := by omega
  have c4 : acc.length < 17592186044416 := by omega
  have e4 := Aside0.mk (show wrap64 ((j : Int) + 1) = ((j + 1 : Nat) : Int) by rw [w64 (by omega) (by omega)]; rfl)
  induction d with
  | zero =>
    intro q hq h1 hd
    have e5 := Aside0.mk (show wrap64 ((q : Int) + 1) = ((q + 1 : Nat) : Int) by rw [w64 (by omega) (by omega)]; rfl)
    have c2 : (0 : Int) ≤ (q : Int) := by omega
    have c3 : (q : Int) < ((ranksT l).length : Int) := by omega
    have c5 : ¬ (((q + 1 : Nat) : Int) < ((endI (dep l) l.length i : Nat) : Int)) := by omega
    have hr := first_leaf ht hil h1 (by omega) hd (.inl (by omega))
    have hg := ranksT_get l ht q (by omega)
    refine Ev.step (fun k => by simp only [spec_LeftLeaf.l1]; rw [if_pos c1, if_pos c0, rdD, hi]) ?_
    refine Ev.bind (spec_EndOf_ev l hl _) ?_
    simp only [if_pos hat, Int.toNat_natCast, e5.out, if_neg c5, if_pos c2, if_pos c3, if_pos c4, rdD, hg, hr, e4.out]
    exact hR
  | succ d ih =>
    intro q hq h1 hd
    have hdq := dep_range ht (i := q) (by omega)
    have e5 := Aside0.mk (show wrap64 ((q : Int) + 1) = ((q + 1 : Nat) : Int) by rw [w64 (by omega) (by omega)]; rfl)
    have e6 := Aside0.mk (show wrap64 (dep l q + 1) = dep l q + 1 from w64 (by omega) (by omega))
    have c2 : (0 : Int) ≤ (q : Int) := by omega
    have c3 : (q : Int) < ((ranksT l).length : Int) := by omega
    have c5 : ((q + 1 : Nat) : Int) < ((endI (dep l) l.length i : Nat) : Int) := by omega
    have c6 : (0 : Int) ≤ ((q + 1 : Nat) : Int) := by omega
    have c7 : ((q + 1 : Nat) : Int) < (l.length : Int) := by omega
    have c8 : (q : Int) < (l.length : Int) := by omega
    have hg := ranksT_get l ht q (by omega)
    refine Ev.step (fun k => by simp only [spec_LeftLeaf.l1]; rw [if_pos c1, if_pos c0, rdD, hi]) ?_
    refine Ev.bind (spec_EndOf_ev l hl _) ?_
    simp only [if_pos hat, Int.toNat_natCast, e5.out, if_pos c5, if_pos c6, if_pos c7, if_pos c2, if_pos c8, rdN, e6.out]
    by_cases h : dep l (q + 1) = dep l q + 1
    · simp only [if_pos h]
      exact ih (q + 1) (by omega) (by omega) (by rw [h, hd]; omega)
    · have hr := first_leaf ht hil h1 (by omega) hd (.inr h)
      simp only [if_neg h, if_pos c3, if_pos c4, rdD, hg, hr, e4.out]
      exact hR
theorem spec_LeftLeaf_l0 (l : List S58) (hl : l.length ≤ 1048576) (d : Nat) : ∀ (j : Nat) (acc : List Int), j + d = (postT l).length → acc.length = j → Ev (fun k => spec_LeftLeaf.l0 k l acc (postT l) (ranksT l) j) (acc ++ ((postT l).drop j).map fun x => x - dep l x.toNat) := by
  have hs := postT_small l hl
  induction d with
  | zero =>
    intro j acc hj ha
    rw [List.drop_of_length_le (by omega), List.map_nil, List.append_nil]
    have c0 : ¬ ((j : Int) < ((postT l).length : Int)) := by omega
    exact Ev.step (f := fun _ => some acc) (fun k => by simp only [spec_LeftLeaf.l0]; rw [if_neg c0]) (Ev.now _)
  | succ d ih =>
    intro j acc hj ha
    have hjl : j < (postT l).length := by omega
    obtain ⟨ht, i, hi, hil⟩ := postT_node l _ (getD_in (postT l) j hjl)
    have hend := endI_le (dep l) l.length i hil
    have c0 : (j : Int) < ((postT l).length : Int) := by omega
    have c1 : (0 : Int) ≤ (j : Int) := by omega
    refine Ev.step (fun k => by simp only [spec_LeftLeaf.l0]; rw [if_pos c0, if_pos c1, rdD, hi]) ?_
    have hR := ih (j + 1) (acc ++ [(i : Int) - dep l i]) (by omega) (by simp; omega)
    have e : acc ++ List.map (fun x => x - dep l x.toNat) (List.drop j (postT l)) = (acc ++ [(i : Int) - dep l i]) ++ List.map (fun x => x - dep l x.toNat) (List.drop (j + 1) (postT l)) := by
      rw [dropD (postT l) j hjl, List.map_cons, hi, Int.toNat_natCast]
      simp only [List.append_assoc, List.cons_append, List.nil_append]
    rw [e]
    exact spec_LeftLeaf_l1 l hl acc j i _ hjl hi hil ht ha hR (endI (dep l) l.length i - i - 1) i (by omega) (Nat.le_refl _) (by simp)
theorem spec_LeftLeaf_ev (l : List S58) (hl : l.length ≤ 1048576) : Ev (fun k => spec_LeftLeaf.f k l) (leafT l) := by
  unfold spec_LeftLeaf.f leafT
  refine Ev.bind (spec_PostOrder_ev l hl) (Ev.bind (spec_RankOf_ev l hl) ?_)
  have := spec_LeftLeaf_l0 l hl (postT l).length 0 [] (by omega) (by simp)
  simpa only [List.drop_zero, Int.natCast_zero, List.nil_append] using this

/-! spec_KeyRoots -/
theorem spec_KeyRoots_l1 (f : List Int) (hf : f.length ≤ 1048576) (acc : List Int) (i : Nat) (hi : i < f.length) (ha : acc.length ≤ i) (R : List Int) (d : Nat) :
    ∀ (j : Nat) (b : Bool), j + d = f.length → Ev (fun k => spec_KeyRoots.l0 k (if (b && !decide (f.getD i 0 ∈ f.drop j)) = true then acc ++ [(i : Int)] else acc) f ((i + 1 : Nat) : Int)) R → Ev (fun k => spec_KeyRoots.l1 k acc f i b j) R := by
  have e3 : wrap64 ((i : Int) + 1) = ((i + 1 : Nat) : Int) := by rw [w64 (by omega) (by omega)]; rfl
  have c4 : acc.length < 17592186044416 := by omega
  have c5 : (i : Int) < (f.length : Int) := by omega
  have c6 : (0 : Int) ≤ (i : Int) := by omega
  induction d with
  | zero =>
    intro j b hj hR
    have c0 : ¬ ((j : Int) < (f.length : Int)) := by omega
    rw [List.drop_of_length_le (by omega)] at hR
    simp only [List.not_mem_nil, decide_false, Bool.not_false, Bool.and_true] at hR
    refine Ev.step (fun k => by simp only [spec_KeyRoots.l1]; rw [if_neg c0, e3]) ?_
    cases b with
    | true => simp only [if_true, if_pos c4] at hR ⊢; exact hR
    | false => simp only [Bool.false_eq_true, if_false] at hR ⊢; exact hR
  | succ d ih =>
    intro j b hj hR
    have hjl : j < f.length := by omega
    have c0 : (j : Int) < (f.length : Int) := by omega
    have c1 : (0 : Int) ≤ (j : Int) := by omega
    have e4 : wrap64 ((j : Int) + 1) = ((j + 1 : Nat) : Int) := by rw [w64 (by omega) (by omega)]; rfl
    cases b with
    | true =>
      refine Ev.step (fun k => by simp only [spec_KeyRoots.l1]; rw [if_pos c0, if_pos trivial, if_pos c1, if_pos c6, if_pos c5, e4, rdD, rdD]) ?_
      refine ih (j + 1) _ (by omega) ?_
      have e : ((f.getD j 0 != f.getD i 0) && !decide (f.getD i 0 ∈ f.drop (j + 1))) = (true && !decide (f.getD i 0 ∈ f.drop j)) := by
        rw [dropD f j hjl]
        generalize f.getD i 0 = u
        generalize f.getD j 0 = v
        by_cases h : u = v
        · simp [h]
        · have h' : ¬ v = u := fun c => h c.symm
          simp [h, h']
      rw [e]
      exact hR
    | false =>
      refine Ev.step (fun k => by simp only [spec_KeyRoots.l1]; rw [if_pos c0, if_neg Bool.false_ne_true, e4]) ?_
      refine ih (j + 1) _ (by omega) ?_
      simpa only [Bool.false_and] using hR
theorem spec_KeyRoots_l0 (f : List Int) (hf : f.length ≤ 1048576) (d : Nat) : ∀ (j : Nat) (acc : List Int), j + d = f.length → acc.length ≤ j → Ev (fun k => spec_KeyRoots.l0 k acc f j) (acc ++ X.rootGo f d j) := by
  induction d with
  | zero =>
    intro j acc hj ha
    have c0 : ¬ ((j : Int) < (f.length : Int)) := by omega
    simp only [X.rootGo, List.append_nil]
    exact Ev.step (f := fun _ => some acc) (fun k => by simp only [spec_KeyRoots.l0]; rw [if_neg c0]) (Ev.now _)
  | succ d ih =>
    intro j acc hj ha
    have c0 : (j : Int) < (f.length : Int) := by omega
    have e4 : wrap64 ((j : Int) + 1) = ((j + 1 : Nat) : Int) := by rw [w64 (by omega) (by omega)]; rfl
    refine Ev.step (fun k => by simp only [spec_KeyRoots.l0]; rw [if_pos c0, e4]) ?_
    refine spec_KeyRoots_l1 f hf acc j (by omega) ha _ d (j + 1) true (by omega) ?_
    have e : (true && !decide (f.getD j 0 ∈ f.drop (j + 1))) = X.lastB f j := by unfold X.lastB; rw [Bool.true_and]
    rw [e]
    simp only [X.rootGo]
    by_cases h : X.lastB f j = true
    · simp only [if_pos h]
      have := ih (j + 1) (acc ++ [(j : Int)]) (by omega) (by simp; omega)
      simpa only [List.append_assoc, List.cons_append, List.nil_append] using this
    · simp only [if_neg h]
      exact ih (j + 1) acc (by omega) (by omega)
theorem spec_KeyRoots_ev (l : List S58) (hl : l.length ≤ 1048576) : Ev (fun k => spec_KeyRoots.f k l) (rootsT l) := by
  unfold spec_KeyRoots.f rootsT
  refine Ev.bind (spec_LeftLeaf_ev l hl) ?_
  have := spec_KeyRoots_l0 (leafT l) (leafT_small l hl) (leafT l).length 0 [] (by omega) (by simp)
  simpa only [Int.natCast_zero, List.nil_append] using this

/-! spec_CellsIn -/
theorem spec_CellsIn_l1 (a b : List S58) (i : Nat) (hi : i < (rootsT a).length) (R : Int) (x : Int) (hx : -331776 ≤ x ∧ x ≤ 331776 + 331776) (d : Nat)
    (hR : Ev (fun k => spec_CellsIn.l0 k (x + termT a ((rootsT a).getD i 0) * cellsT b) (rootsT a) (rootsT b) (leafT a) (leafT b) ((i + 1 : Nat) : Int)) R) : ∀ j : Nat, j + d = (rootsT b).length →
    Ev (fun k => spec_CellsIn.l1 k (x + termT a ((rootsT a).getD i 0) * X.sumL (((rootsT b).take j).map (termT b))) (rootsT a) (rootsT b) (leafT a) (leafT b) i j) R := by
  have hla := rootsT_len a
  have hlb := rootsT_len b
  have hia := getD_in (rootsT a) i hi
  have hra := rootsT_range a _ hia
  have hta := termT_range a _ hia
  have e3 : wrap64 ((i : Int) + 1) = ((i + 1 : Nat) : Int) := by rw [w64 (by omega) (by omega)]; rfl
  have c5 : (i : Int) < ((rootsT a).length : Int) := by omega
  have c6 : (0 : Int) ≤ (i : Int) := by omega
  have c7 := hra.1
  have c8 := hra.2
  induction d with
  | zero =>
    intro j hj
    have c0 : ¬ ((j : Int) < ((rootsT b).length : Int)) := by omega
    have e : (rootsT b).take j = rootsT b := List.take_of_length_le (by omega)
    rw [e]
    refine Ev.step (fun k => by simp only [spec_CellsIn.l1]; rw [if_neg c0, e3]) ?_
    exact hR
  | succ d ih =>
    intro j hj
    have hjl : j < (rootsT b).length := by omega
    have hin := getD_in (rootsT b) j hjl
    have hr := rootsT_range b _ hin
    have ht := termT_range b _ hin
    have hp := part_range b ((rootsT b).take j) (fun x h => List.mem_of_mem_take h) (by rw [List.length_take]; omega)
    have c0 : (j : Int) < ((rootsT b).length : Int) := by omega
    have c1 : (0 : Int) ≤ (j : Int) := by omega
    have c2 := hr.1
    have c3 := hr.2
    have e4 : wrap64 ((j : Int) + 1) = ((j + 1 : Nat) : Int) := by rw [w64 (by omega) (by omega)]; rfl
    have hm1 := mul_range (a := termT a ((rootsT a).getD i 0)) (b := termT b ((rootsT b).getD j 0)) (by omega) (by omega)
    have hm2 := mul_range (a := termT a ((rootsT a).getD i 0)) (b := X.sumL (((rootsT b).take j).map (termT b))) (by omega) hp
    have e6 : wrap64 (termT a ((rootsT a).getD i 0) * termT b ((rootsT b).getD j 0)) = termT a ((rootsT a).getD i 0) * termT b ((rootsT b).getD j 0) := w64 (by omega) (by omega)
    have e5 : wrap64 (x + termT a ((rootsT a).getD i 0) * X.sumL (((rootsT b).take j).map (termT b)) + termT a ((rootsT a).getD i 0) * termT b ((rootsT b).getD j 0)) = x + termT a ((rootsT a).getD i 0) * X.sumL (((rootsT b).take (j + 1)).map (termT b)) := by
      rw [take_roots b j hjl, Int.mul_add, w64 (by omega) (by omega)]; omega
    refine Ev.step (fun k => by simp only [spec_CellsIn.l1]; rw [if_pos c0, if_pos c6, if_pos c5, rdD, rdD, if_pos c7, if_pos c8, if_pos c1, if_pos c2, if_pos c3, term_wrap a _ hia, term_wrap b _ hin, e6, e5, e4]) ?_
    exact ih (j + 1) (by omega)
theorem spec_CellsIn_l0 (a b : List S58) (d : Nat) : ∀ i : Nat, i + d = (rootsT a).length → Ev (fun k => spec_CellsIn.l0 k (X.sumL (((rootsT a).take i).map (termT a)) * cellsT b) (rootsT a) (rootsT b) (leafT a) (leafT b) i) (cellsT a * cellsT b) := by
  have hcb := cellsT_range b
  induction d with
  | zero =>
    intro i hi
    have c0 : ¬ ((i : Int) < ((rootsT a).length : Int)) := by omega
    have e : (rootsT a).take i = rootsT a := List.take_of_length_le (by omega)
    rw [e]
    refine Ev.step (fun k => by simp only [spec_CellsIn.l0]; rw [if_neg c0]) ?_
    exact Ev.now _
  | succ d ih =>
    intro i hi
    have hil : i < (rootsT a).length := by omega
    have hp := part_range a ((rootsT a).take i) (fun x h => List.mem_of_mem_take h) (by rw [List.length_take]; have := rootsT_len a; omega)
    have hm := mul_range hp hcb
    have c0 : (i : Int) < ((rootsT a).length : Int) := by omega
    have hR := ih (i + 1) (by omega)
    rw [take_roots a i hil, Int.add_mul] at hR
    have := spec_CellsIn_l1 a b i hil _ _ (by omega) (rootsT b).length hR 0 (by omega)
    simp only [List.take_zero, List.map_nil, X.sumL, Int.natCast_zero, Int.mul_zero, Int.add_zero] at this
    refine Ev.step (fun k => by simp only [spec_CellsIn.l0]; rw [if_pos c0]) ?_
    exact this
theorem spec_CellsIn_ev (a b : List S58) (ha : a.length ≤ 1048576) (hb : b.length ≤ 1048576) : Ev (fun k => spec_CellsIn.f k a b) (cellsT a * cellsT b) := by
  unfold spec_CellsIn.f
  refine Ev.bind (spec_KeyRoots_ev a ha) (Ev.bind (spec_KeyRoots_ev b hb) (Ev.bind (spec_LeftLeaf_ev a ha) (Ev.bind (spec_LeftLeaf_ev b hb) ?_)))
  have := spec_CellsIn_l0 a b (rootsT a).length 0 (by omega)
  simpa only [List.take_zero, List.map_nil, X.sumL, Int.natCast_zero, Int.zero_mul] using this

-- imports: Y
theorem roots_count (l : List S58) (h : treeP (lab l) (dep l) l.length) : ((rootsT l).length : Int) = leavesT l := by
  have hp := postT_is l h
  have hn := postT_n l h
  have he := end_root h
  have hv := Y.rootGo_vals (leafT l) (leafT l).length 0 (by omega)
  have hl := Y.leafL_nodup h l.length 0 (by omega)
  have hs := Y.same_len hv.1 hl (fun x => by
    rw [hv.2, List.drop_zero, Y.leafL_mem]
    unfold leafT
    rw [List.mem_map]
    constructor
    · rintro ⟨y, hy, rfl⟩
      obtain ⟨j, rfl, _, hj⟩ := (hp.1 y).1 hy
      rw [Int.toNat_natCast]
      obtain ⟨q, h1, h2, h3⟩ := Y.first_of h l.length j (by omega) (by omega)
      exact ⟨q, by omega, by omega, h2, h3⟩
    · rintro ⟨q, _, h1, _, rfl⟩
      exact ⟨(q : Int), (hp.1 _).2 ⟨q, rfl, by omega, by omega⟩, by rw [Int.toNat_natCast]⟩)
  rw [List.length_map] at hs
  unfold leavesT
  rw [if_pos (treeB_iff.2 h), Y.leafL_count]
  unfold rootsT
  omega
/-- What a place of the order adds: how many nodes are under its node, itself among them. -/
theorem term_at (l : List S58) (h : treeP (lab l) (dep l) l.length) (k : Nat) (hk : k < l.length) : ∃ i : Nat, i < l.length ∧ (postT l).getD k 0 = (i : Int) ∧ termT l (k : Int) = ((endI (dep l) l.length i : Nat) : Int) - i ∧ rnk (dep l) l.length i = k := by
  have hp := postT_is l h
  have hn := postT_n l h
  have hm : k < (postT l).length := by omega
  have hr := rank_at h hp k hm
  obtain ⟨_, i, hi, hil⟩ := postT_node l _ (List.getElem_mem hm)
  rw [hi, Int.toNat_natCast] at hr
  refine ⟨i, hil, by rw [List.getD_eq_getElem?_getD, List.getElem?_eq_getElem hm, hi]; rfl, ?_, hr⟩
  have e : (leafT l).getD ((k : Int)).toNat 0 = (i : Int) - dep l i := by
    unfold leafT
    rw [Int.toNat_natCast, List.getD_eq_getElem?_getD, List.getElem?_map, List.getElem?_eq_getElem hm, Option.map_some, Option.getD_some, hi, Int.toNat_natCast]
  unfold termT
  rw [e]
  unfold rnk at hr
  omega
theorem term_bounds (l : List S58) (h : treeP (lab l) (dep l) l.length) (k : Nat) (hk : k < l.length) : 1 ≤ termT l (k : Int) ∧ termT l (k : Int) ≤ l.length := by
  obtain ⟨i, hi, _, e, _⟩ := term_at l h k hk
  have := endI_le (dep l) l.length i hi
  rw [e]; omega
theorem term_root (l : List S58) (h : treeP (lab l) (dep l) l.length) : termT l ((l.length - 1 : Nat) : Int) = l.length := by
  have hn := h.1
  obtain ⟨i, hi, _, e, hr⟩ := term_at l h (l.length - 1) (by omega)
  have he := end_root h
  have h0 : rnk (dep l) l.length 0 = ((l.length - 1 : Nat) : Int) := by unfold rnk; rw [he, dep_zero h]; omega
  have hi0 : i = 0 := by
    by_cases c : i = 0
    · exact c
    · have := rnk_ne h hi (show 0 < l.length by omega) c
      omega
  subst hi0
  rw [e, he]; omega
theorem sum_le (l : List S58) (h : treeP (lab l) (dep l) l.length) : ∀ xs : List Int, (∀ x ∈ xs, 0 ≤ x ∧ x < l.length) → X.sumL (xs.map (termT l)) ≤ xs.length * l.length ∧ 0 ≤ X.sumL (xs.map (termT l))
  | [], _ => by simp [X.sumL]
  | x :: xs, hx => by
    have h1 := sum_le l h xs (fun y hy => hx y (List.mem_cons_of_mem _ hy))
    have h2 := hx x (by simp)
    obtain ⟨k, rfl⟩ := Int.eq_ofNat_of_zero_le h2.1
    have h3 := term_bounds l h k (by omega)
    have e : ((((k : Int) :: xs).length : Nat) : Int) * l.length = xs.length * l.length + l.length := by rw [List.length_cons, Int.natCast_add, Int.add_mul]; simp
    rw [e]
    simp only [List.map_cons, X.sumL]
    omega
/-- A sum over some of the places is no more than over all, as each adds one at least. -/
theorem sum_sub (f : Int → Int) (n : Nat) (hf : ∀ k : Nat, k < n → 0 ≤ f k) (g : Nat → Bool) (d : Nat) : ∀ k : Nat, k + d = n → X.sumL ((List.range' k d).filterMap fun j : Nat => if g j = true then some (f (j : Int)) else none) ≤ X.sumL ((List.range' k d).map fun j : Nat => f (j : Int)) := by
  induction d with
  | zero => intro k _; simp [X.sumL]
  | succ d ih =>
    intro k hk
    have h1 := ih (k + 1) (by omega)
    have h2 := hf k (by omega)
    rw [List.range'_succ]
    simp only [List.filterMap_cons, List.map_cons, X.sumL]
    by_cases c : g k = true
    · simp only [if_pos c, X.sumL]; omega
    · simp only [if_neg c]; omega
theorem rootGo_sum (f : List Int) (t : Int → Int) (d : Nat) : ∀ k : Nat, (X.rootGo f d k).map t = (List.range' k d).filterMap fun j : Nat => if X.lastB f j = true then some (t (j : Int)) else none := by
  induction d with
  | zero => intro k; simp [X.rootGo]
  | succ d ih =>
    intro k
    rw [List.range'_succ]
    simp only [X.rootGo, List.filterMap_cons]
    by_cases c : X.lastB f k = true
    · simp only [if_pos c, List.map_cons, ih (k + 1)]
    · simp only [if_neg c, ih (k + 1)]
theorem high_ge (dp : Nat → Int) (d : Nat) : ∀ (j : Nat) (a : Int), a ≤ highGo dp d j a ∧ ∀ i : Nat, j ≤ i → i < j + d → dp i + 1 ≤ highGo dp d j a := by
  induction d with
  | zero => intro j a; exact ⟨by simp [highGo], fun i h1 h2 => by omega⟩
  | succ d ih =>
    intro j a
    simp only [highGo]
    obtain ⟨h1, h2⟩ := ih (j + 1) (mx a (dp j + 1))
    have h3 : a ≤ mx a (dp j + 1) ∧ dp j + 1 ≤ mx a (dp j + 1) := by unfold mx; split <;> omega
    refine ⟨by omega, fun i hi hi2 => ?_⟩
    by_cases c : i = j
    · subst c; omega
    · exact h2 i (by omega) (by omega)
theorem high_le (dp : Nat → Int) (b : Int) (d : Nat) : ∀ (j : Nat) (a : Int), a ≤ b → (∀ i : Nat, j ≤ i → i < j + d → dp i + 1 ≤ b) → highGo dp d j a ≤ b := by
  induction d with
  | zero => intro j a h _; simpa [highGo] using h
  | succ d ih =>
    intro j a h hd
    simp only [highGo]
    refine ih (j + 1) _ ?_ (fun i h1 h2 => hd i (by omega) (by omega))
    have := hd j (by omega) (by omega)
    unfold mx; split <;> omega
theorem sum_map_le (f g : Nat → Int) : ∀ xs : List Nat, (∀ x ∈ xs, f x ≤ g x) → X.sumL (xs.map f) ≤ X.sumL (xs.map g)
  | [], _ => by simp [X.sumL]
  | x :: xs, h => by
    have h1 := sum_map_le f g xs (fun y hy => h y (List.mem_cons_of_mem _ hy))
    have h2 := h x (by simp)
    simp only [List.map_cons, X.sumL]
    omega
theorem sum_split (a b : Nat → Int) (c : Int) : ∀ xs : List Nat, X.sumL (xs.map fun x => a x - b x + c) = X.sumL (xs.map a) - X.sumL (xs.map b) + xs.length * c
  | [] => by simp [X.sumL]
  | x :: xs => by
    have e : (((x :: xs).length : Nat) : Int) * c = xs.length * c + c := by rw [List.length_cons, Int.natCast_add, Int.add_mul]; simp
    rw [e]
    simp only [List.map_cons, X.sumL, sum_split a b c xs]
    omega
theorem post_sum (l : List S58) (h : treeP (lab l) (dep l) l.length) : X.sumL ((List.range' 0 l.length).map fun j : Nat => (postT l).getD j 0) = X.sumL ((List.range' 0 l.length).map fun j : Nat => (j : Int)) := by
  have hp := postT_is l h
  have hn := postT_n l h
  have he := end_root h
  have e1 : ((List.range' 0 l.length).map fun j : Nat => (postT l).getD j 0) = postT l := by
    apply List.ext_getElem
    · rw [List.length_map, List.length_range', hn]
    · intro i h1 h2
      simp [List.getD_eq_getElem?_getD, h2]
  rw [e1]
  apply X.sumL_perm
  have hnd : (postT l).Nodup := hp.2.1.imp (fun {a b} hab e => by rw [e] at hab; omega)
  have hnd2 : ((List.range' 0 l.length).map fun j : Nat => (j : Int)).Nodup := by
    refine List.pairwise_map.2 ((List.nodup_range' (s := 0) (n := l.length)).imp (fun {a b} hab e => hab (by omega)))
  refine (List.perm_ext_iff_of_nodup hnd hnd2).2 (fun x => ?_)
  rw [hp.1, List.mem_map]
  constructor
  · rintro ⟨j, e, _, hj⟩
    exact ⟨j, List.mem_range'.2 ⟨j, by omega, by omega⟩, e.symm⟩
  · rintro ⟨j, hj, e⟩
    obtain ⟨i, hi, e2⟩ := List.mem_range'.1 hj
    exact ⟨j, e.symm, by omega, by omega⟩
theorem cells_high (l : List S58) (h : treeP (lab l) (dep l) l.length) : cellsT l ≤ l.length * heightT l := by
  have hn := postT_n l h
  have hll := leafT_len l
  have hg := (high_ge (dep l) l.length 0 0).2
  have eh : heightT l = highGo (dep l) l.length 0 0 := by unfold heightT; rw [if_pos (treeB_iff.2 h)]
  have e0 : cellsT l = X.sumL ((List.range' 0 l.length).filterMap fun j : Nat => if X.lastB (leafT l) j = true then some (termT l (j : Int)) else none) := by
    unfold cellsT rootsT
    rw [hll, hn, rootGo_sum]
  have h1 := sum_sub (termT l) l.length (fun k hk => by have := term_bounds l h k hk; omega) (X.lastB (leafT l)) l.length 0 (by omega)
  have h2 := sum_map_le (fun j : Nat => termT l (j : Int)) (fun j : Nat => (j : Int) - (postT l).getD j 0 + heightT l) (List.range' 0 l.length) (fun k hk => by
    obtain ⟨i, hi, e2⟩ := List.mem_range'.1 hk
    obtain ⟨m, hm, e3, e4, e5⟩ := term_at l h k (by omega)
    have := hg m (by omega) (by omega)
    rw [e3, e4, eh]
    unfold rnk at e5
    omega)
  have h3 := sum_split (fun j : Nat => (j : Int)) (fun j : Nat => (postT l).getD j 0) (heightT l) (List.range' 0 l.length)
  rw [post_sum l h, List.length_range'] at h3
  rw [e0]
  omega
theorem cells_bounds (l : List S58) (h : treeP (lab l) (dep l) l.length) : (l.length : Int) ≤ cellsT l ∧ cellsT l ≤ l.length * mn (heightT l) (leavesT l) ∧ 0 ≤ mn (heightT l) (leavesT l) ∧ mn (heightT l) (leavesT l) ≤ 24 := by
  have hn := postT_n l h
  have hll := leafT_len l
  have h1n := h.1
  have hc := roots_count l h
  have hrl := rootsT_len l
  have hrng : ∀ x ∈ rootsT l, 0 ≤ x ∧ x < (l.length : Int) := fun x hx => by have := rootsT_range l x hx; omega
  have hs := sum_le l h (rootsT l) hrng
  have hh := cells_high l h
  have eh : heightT l = highGo (dep l) l.length 0 0 := by unfold heightT; rw [if_pos (treeB_iff.2 h)]
  have hg := (high_ge (dep l) l.length 0 0).1
  have hl13 := high_le (dep l) 13 l.length 0 0 (by omega) (fun i _ hi => by have := dep_range h (i := i) (by omega); omega)
  obtain ⟨pre, hpre⟩ := Y.rootGo_last (leafT l) (leafT l).length 0 (by omega) (by omega)
  have hpre2 : rootsT l = pre ++ [((l.length - 1 : Nat) : Int)] := by unfold rootsT; rw [hpre, hll, hn]
  have hp0 := (sum_le l h pre (fun x hx => hrng x (by rw [hpre2]; exact List.mem_append_left _ hx))).2
  have e1 : cellsT l = X.sumL (pre.map (termT l)) + l.length := by
    unfold cellsT
    rw [hpre2, List.map_append, X.sumL_app, List.map_cons, List.map_nil, term_root l h]
    simp [X.sumL]
  have e2 : ((rootsT l).length : Int) * l.length = l.length * leavesT l := by rw [hc, Int.mul_comm]
  have e3 : cellsT l = X.sumL ((rootsT l).map (termT l)) := rfl
  refine ⟨by omega, ?_, ?_, ?_⟩
  · unfold mn; split <;> omega
  · unfold mn; split <;> omega
  · unfold mn; split <;> omega
theorem mul_bd {a b A B : Int} (ha : 0 ≤ a) (hA : a ≤ A) (hb : 0 ≤ b) (hB : b ≤ B) : 0 ≤ a * b ∧ a * b ≤ A * B := ⟨Int.mul_nonneg ha hb, Int.mul_le_mul hA hB hb (by omega)⟩
theorem cells_j0 (a b : List S58) (ha : a.length ≤ 1048576) (hb : b.length ≤ 1048576) (h : treeP (lab a) (dep a) a.length) (h' : treeP (lab b) (dep b) b.length) : Ev (fun k => laws_FnCells.j0 k a b (cellsT a * cellsT b) false) true := by
  obtain ⟨a1, a2, a3, a4⟩ := cells_bounds a h
  obtain ⟨b1, b2, b3, b4⟩ := cells_bounds b h'
  have hn := h.1
  have hm := h'.1
  have k1 := mul_bd (a := (a.length : Int)) (b := (b.length : Int)) (A := 24) (B := 24) (by omega) (by omega) (by omega) (by omega)
  have k2 := mul_bd (a := (a.length : Int) * b.length) (b := mn (heightT a) (leavesT a)) (A := 576) (B := 24) (by omega) (by omega) a3 a4
  have k3 := mul_bd (a := (a.length : Int) * b.length * mn (heightT a) (leavesT a)) (b := mn (heightT b) (leavesT b)) (A := 13824) (B := 24) (by omega) (by omega) b3 b4
  have c1 : cellsT a * cellsT b ≥ (a.length : Int) * b.length := Int.mul_le_mul a1 b1 (by omega) (by omega)
  have c2 : cellsT a * cellsT b ≤ (a.length : Int) * b.length * mn (heightT a) (leavesT a) * mn (heightT b) (leavesT b) := by
    have k4 := mul_bd (a := (a.length : Int)) (b := mn (heightT a) (leavesT a)) (A := 24) (B := 24) (by omega) (by omega) a3 a4
    have := Int.mul_le_mul a2 b2 (by omega) k4.1
    have e : (a.length : Int) * mn (heightT a) (leavesT a) * (b.length * mn (heightT b) (leavesT b)) = (a.length : Int) * b.length * mn (heightT a) (leavesT a) * mn (heightT b) (leavesT b) := by
      generalize mn (heightT a) (leavesT a) = u
      generalize mn (heightT b) (leavesT b) = v
      generalize (a.length : Int) = x
      generalize (b.length : Int) = y
      rw [Int.mul_assoc, Int.mul_assoc, Int.mul_assoc, ← Int.mul_assoc u y v, Int.mul_comm u y, Int.mul_assoc]
    rw [e] at this
    exact this
  have e1 : wrap64 ((a.length : Int) * b.length) = (a.length : Int) * b.length := w64 (by omega) (by omega)
  have e2 : wrap64 ((a.length : Int) * b.length * mn (heightT a) (leavesT a)) = (a.length : Int) * b.length * mn (heightT a) (leavesT a) := by clear e1; exact w64 (by omega) (by omega)
  have e3 : wrap64 ((a.length : Int) * b.length * mn (heightT a) (leavesT a) * mn (heightT b) (leavesT b)) = (a.length : Int) * b.length * mn (heightT a) (leavesT a) * mn (heightT b) (leavesT b) := by clear e1 e2; exact w64 (by omega) (by omega)
  refine Ev.step (fun k => by rw [laws_FnCells.j0]) ?_
  simp only [Bool.false_eq_true, if_false, e1, if_pos c1]
  refine Ev.bind (spec_HeightOf_ev a ha) (Ev.bind (spec_LeavesOf_ev a ha) (Ev.bind (spec_HeightOf_ev b hb) (Ev.bind (spec_LeavesOf_ev b hb) ?_)))
  simp only [e2, e3, if_pos c2]
  refine Ev.bind (spec_CellsIn_ev a b ha hb) ?_
  exact evSome (by simp)
theorem drawCells_ok (c : List Int) (hc : c.length ≤ 1048576) : ∃ a b, Ev (fun k => spec_DrawCellsIn.f k c) (a, b) ∧ a.length ≤ 600 ∧ b.length ≤ 600 := by
  obtain ⟨h, hn⟩ := new_ok c hc
  obtain ⟨a, i1, h1, ha, hal, hi1⟩ := l3Any_ok c hc 0 h (by omega) 12 (by omega)
  obtain ⟨b, i2, h2, hb, hbl, hi2⟩ := l3Any_ok c hc i1 h1 hi1 12 (by omega)
  refine ⟨a, b, ?_, hal, hbl⟩
  unfold spec_DrawCellsIn.f
  exact Ev.bind hn (Ev.bind ha (Ev.bind hb (Ev.now _)))
theorem law : laws_FnCells.Pure := by
  intro c hc1 hc2 _
  refine Ev.rounds ?_
  unfold laws_FnCells.f
  simp only [big_eq, Option.bind_some, decide_eq_true_eq]
  by_cases hbig : (c.length : Int) > 1048576
  · simp only [if_pos hbig]; exact Ev.now _
  · simp only [if_neg hbig]
    obtain ⟨a, b, hd, hal, hbl⟩ := drawCells_ok c (by omega)
    have ha : a.length ≤ 1048576 := by omega
    have hb : b.length ≤ 1048576 := by omega
    refine Ev.bind hd (Ev.bind (impl_CellsIn_ev a b ha hb) (Ev.bind (spec_TreeOk_ev a ha) ?_))
    by_cases h1 : treeB (lab a) (dep a) a.length = true
    · simp only [if_pos h1]
      refine Ev.bind (spec_TreeOk_ev b hb) ?_
      by_cases h2 : treeB (lab b) (dep b) b.length = true
      · simp only [h2, Bool.not_true]
        exact cells_j0 a b ha hb (treeB_iff.1 h1) (treeB_iff.1 h2)
      · simp only [Bool.eq_false_iff.mpr h2, Bool.not_false]
        rw [cellsT_no b h2, Int.mul_zero]
        refine Ev.step (fun k => by rw [laws_FnCells.j0]) ?_
        simp only [if_true]
        exact evSome (by simp)
    · simp only [if_neg h1]
      rw [cellsT_no a h1, Int.zero_mul]
      refine Ev.step (fun k => by rw [laws_FnCells.j0]) ?_
      simp only [if_true]
      exact evSome (by simp)

end Go.Proofs.Ytejcbclcifnomaa.PureFnCells
namespace Go.Proofs.Ytejcbclcifnomaa.Pure
open Go.RowKit Go.Proofs.Ytejcbclcifnomaa.HFnCells
theorem FnCells : laws_FnCells.Pure := Go.Proofs.Ytejcbclcifnomaa.PureFnCells.law
end Go.Proofs.Ytejcbclcifnomaa.Pure
