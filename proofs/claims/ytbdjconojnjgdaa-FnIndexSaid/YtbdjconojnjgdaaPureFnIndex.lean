/- For every code: of the list of nodes drawn from it, each node has its place behind all that is under it, its first leaf is as far ahead as there is under it, and there are as many last places as leaves. Condition: none but the model's own bound on a slice's size. -/
import Derived.Test.YtbdjconojnjgdaaHFnIndexx7
import Derived.Test.YtbdjconojnjgdaaM
import Derived.Test.YtbdjconojnjgdaaT
import Derived.Test.YtbdjconojnjgdaaY
import Derived.Test.YtbdjconojnjgdaaU
import Derived.Test.YtbdjconojnjgdaaV
import Derived.Test.YtbdjconojnjgdaaX
namespace Go.Proofs.Ytbdjconojnjgdaa.PureFnIndex
open Go.RowKit Go.Proofs.Ytbdjconojnjgdaa.HFnIndex Go.Proofs.YtbdjconojnjgdaaW.PrintWords Go.Proofs.YtbdjconojnjgdaaW.PrintLast Go.Proofs.YtbdjconojnjgdaaW.PrintMore Go.Proofs.Ytbdjconojnjgdaa.M Go.Proofs.Ytbdjconojnjgdaa.T Go.Proofs.Ytbdjconojnjgdaa.U
set_option linter.unusedVariables false
set_option linter.unusedSimpArgs false

abbrev lab (l : List S65) (i : Nat) : Int := (l.getD i z65).f0
abbrev dep (l : List S65) (i : Nat) : Int := (l.getD i z65).f1
theorem rdN (l : List S65) (i : Nat) : rd_T65 l (i : Int) = l.getD i z65 := by unfold rd_T65; simp
def subGo (l : List S65) (v : Int) : Nat → Nat → List S65
  | 0, _ => []
  | d + 1, j => ⟨lab l j, dep l j - v⟩ :: subGo l v d (j + 1)
theorem subGo_len (l : List S65) (v : Int) (d : Nat) : ∀ j, (subGo l v d j).length = d := by
  induction d with
  | zero => intro j; rfl
  | succ d ih => intro j; simp [subGo, ih]
def subT (l : List S65) (a : Int) : List S65 := if atB (lab l) (dep l) l.length a = true then subGo l (dep l a.toNat) (endI (dep l) l.length a.toNat - a.toNat) a.toNat else []
theorem subT_small (l : List S65) (a : Int) (hl : l.length ≤ 1048576) : (subT l a).length ≤ 1048576 := by
  unfold subT
  by_cases h : atB (lab l) (dep l) l.length a = true
  · obtain ⟨i, rfl, hi, _⟩ := atB_nat h
    rw [if_pos h, subGo_len]
    have := endI_le (dep l) l.length i hi
    simp only [Int.toNat_natCast]; omega
  · rw [if_neg h]; simp
/-- Which child of its parent a node is. -/
def rankT (l : List S65) (a : Int) : Int := if atB (lab l) (dep l) l.length a = true ∧ 0 ≤ parI (dep l) a.toNat then idxGo a (kidsI (dep l) l.length (parI (dep l) a.toNat).toNat) 0 else -1
theorem rankT_yes (l : List S65) (a : Int) (h : atB (lab l) (dep l) l.length a = true) (h0 : 0 ≤ parI (dep l) a.toNat) : rankT l a = idxGo a (kidsI (dep l) l.length (parI (dep l) a.toNat).toNat) 0 := by unfold rankT; rw [if_pos ⟨h, h0⟩]
theorem rankT_no (l : List S65) (a : Int) (h : ¬ (atB (lab l) (dep l) l.length a = true ∧ 0 ≤ parI (dep l) a.toNat)) : rankT l a = -1 := by unfold rankT; rw [if_neg h]
theorem par_at (l : List S65) (a : Int) (h : atB (lab l) (dep l) l.length a = true) (h0 : 0 ≤ parI (dep l) a.toNat) : atB (lab l) (dep l) l.length (parI (dep l) a.toNat) = true := by
  obtain ⟨i, rfl, hi, ht⟩ := atB_nat h
  have := parGo_range (dep l) (dep l i) i
  simp only [Int.toNat_natCast, parI] at h0 ⊢
  exact atB_iff.2 ⟨ht, h0, by omega⟩
theorem kids_small (l : List S65) (i : Nat) (hi : i < l.length) (hl : l.length ≤ 1048576) : (kidsI (dep l) l.length i).length ≤ 1048576 := by
  have := kidGo_len (dep l) (dep l i + 1) (endI (dep l) l.length i - (i + 1)) (i + 1)
  have := endI_le (dep l) l.length i hi
  unfold kidsI; omega
theorem kidsT_small (l : List S65) (a : Int) (hl : l.length ≤ 1048576) : (if atB (lab l) (dep l) l.length a = true then kidsI (dep l) l.length a.toNat else []).length ≤ 1048576 := by
  by_cases h : atB (lab l) (dep l) l.length a = true
  · obtain ⟨i, rfl, hi, _⟩ := atB_nat h
    rw [if_pos h]
    have := kidGo_len (dep l) (dep l i + 1) (endI (dep l) l.length i - (i + 1)) (i + 1)
    have := endI_le (dep l) l.length i hi
    simp only [Int.toNat_natCast]
    unfold kidsI; omega
  · rw [if_neg h]; simp
/-- Is node b under node a? -/
def underT (l : List S65) (a b : Int) : Bool := atB (lab l) (dep l) l.length a && (atB (lab l) (dep l) l.length b && decide (a < b ∧ b < ((endI (dep l) l.length a.toNat : Nat) : Int)))
/-- Does node b follow node a, and isn't under it? -/
def leftT (l : List S65) (a b : Int) : Bool := atB (lab l) (dep l) l.length a && (atB (lab l) (dep l) l.length b && decide (b ≥ ((endI (dep l) l.length a.toNat : Nat) : Int)))
def heightT (l : List S65) : Int := if treeB (lab l) (dep l) l.length = true then highGo (dep l) l.length 0 0 else 0
def leavesT (l : List S65) : Int := if treeB (lab l) (dep l) l.length = true then leafGo (dep l) l.length l.length 0 0 else 0
def sameGo (a b : List S65) : Nat → Nat → Bool
  | 0, _ => true
  | d + 1, j => if (!((a.getD j z65).f0 == (b.getD j z65).f0) || (!((a.getD j z65).f1 == (b.getD j z65).f1))) = true then false else sameGo a b d (j + 1)
def sameT (a b : List S65) : Bool := if a.length = b.length then sameGo a b a.length 0 else false
def putGo (l : List S65) : Nat → Nat → ByteArray → ByteArray
  | 0, _, s => s
  | d + 1, j, s => putGo l d (j + 1) (s ++ (varS (lab l j) ++ varS (dep l j)))
def putT (l : List S65) : ByteArray := if treeB (lab l) (dep l) l.length = true then putGo l l.length 0 (varS l.length) else ⟨#[]⟩
/-- A node of depth q can stand behind these. -/
def shapeP (acc : List S65) (i : Nat) (q : Int) : Prop := (i = 0 → q = 0) ∧ (0 < i → 1 ≤ q ∧ q ≤ dep acc (i - 1) + 1)
instance (acc : List S65) (i : Nat) (q : Int) : Decidable (shapeP acc i q) := by unfold shapeP; infer_instance
/-- The nodes at place a on, d of them still to come, i of them behind. -/
def getGo (s : ByteArray) : Nat → Nat → Nat → List S65 → List S65 × Int
  | 0, _, a, acc => if a = s.size then (acc, 0) else ([], 6)
  | d + 1, i, a, acc =>
    let r := readVar (s.extract a s.size)
    if r.2 = 0 then ([], 1)
    else if ¬ (0 ≤ r.1 ∧ r.1 ≤ 5) then ([], 3)
    else
      let q := readVar (s.extract (a + r.2.toNat) s.size)
      if q.2 = 0 then ([], 1)
      else if q.1 > 12 then ([], 4)
      else if ¬ shapeP acc i q.1 then ([], 5)
      else getGo s d (i + 1) (a + r.2.toNat + q.2.toNat) (acc ++ [⟨r.1, q.1⟩])
def getT (s : ByteArray) : List S65 × Int :=
  let r := readVar s
  if r.2 = 0 then ([], 1) else if ¬ (1 ≤ r.1 ∧ r.1 ≤ 24) then ([], 2) else getGo s r.1.toNat 0 r.2.toNat []
theorem getGo_len (s : ByteArray) (d : Nat) : ∀ (i a : Nat) (acc : List S65), (getGo s d i a acc).1.length ≤ acc.length + d := by
  induction d with
  | zero => intro i a acc; simp only [getGo]; split <;> simp
  | succ d ih =>
    intro i a acc
    simp only [getGo]
    split
    · simp
    split
    · simp
    split
    · simp
    split
    · simp
    split
    · simp
    have := ih (i + 1) (a + (readVar (s.extract a s.size)).2.toNat + (readVar (s.extract (a + (readVar (s.extract a s.size)).2.toNat) s.size)).2.toNat) (acc ++ [⟨(readVar (s.extract a s.size)).1, (readVar (s.extract (a + (readVar (s.extract a s.size)).2.toNat) s.size)).1⟩])
    simp at this ⊢
    omega
theorem getT_small (s : ByteArray) : (getT s).1.length ≤ 1048576 := by
  unfold getT
  simp only
  split
  · simp
  split
  · simp
  rename_i h
  have := getGo_len s (readVar s).1.toNat 0 (readVar s).2.toNat []
  simp at this
  omega

/-- The nodes by rank; none where the nodes are no tree. -/
noncomputable def postT (l : List S65) : List Int := if treeB (lab l) (dep l) l.length = true then postN (dep l) l.length else []
theorem postT_is (l : List S65) (h : treeP (lab l) (dep l) l.length) : isPost (dep l) l.length 0 (postT l) := by
  unfold postT
  rw [if_pos (treeB_iff.2 h), postN_eq (V.sorted_post h)]
  exact V.sorted_post h
theorem postT_no (l : List S65) (h : ¬ treeP (lab l) (dep l) l.length) : postT l = [] := by
  unfold postT
  rw [if_neg (fun c => h (treeB_iff.1 c))]
theorem postT_n (l : List S65) (h : treeP (lab l) (dep l) l.length) : (postT l).length = l.length := by
  have := (postT_is l h).2.2
  rw [end_root h] at this
  omega
theorem postT_len (l : List S65) : (postT l).length ≤ 24 := by
  by_cases h : treeP (lab l) (dep l) l.length
  · rw [postT_n l h]; exact h.1.2
  · rw [postT_no l h]; simp
theorem postT_small (l : List S65) (hl : l.length ≤ 1048576) : (postT l).length ≤ 1048576 := Nat.le_trans (postT_len l) (by decide)
theorem postT_node (l : List S65) (x : Int) (hx : x ∈ postT l) : treeP (lab l) (dep l) l.length ∧ ∃ i : Nat, x = i ∧ i < l.length := by
  by_cases h : treeP (lab l) (dep l) l.length
  · refine ⟨h, ?_⟩
    obtain ⟨j, e, _, hj⟩ := ((postT_is l h).1 x).1 hx
    rw [end_root h] at hj
    exact ⟨j, e, hj⟩
  · rw [postT_no l h] at hx; cases hx
theorem postT_range (l : List S65) (x : Int) (hx : x ∈ postT l) : 0 ≤ x ∧ x < (postT l).length := by
  obtain ⟨h, i, e, hi⟩ := postT_node l x hx
  rw [postT_n l h]; omega
/-- The rank of each node. -/
noncomputable def ranksT (l : List S65) : List Int := X.setGo (postT l) 0 (List.replicate (postT l).length 0)
theorem ranksT_len (l : List S65) : (ranksT l).length = (postT l).length := by unfold ranksT; rw [X.setGo_len, List.length_replicate]
theorem ranksT_small (l : List S65) (hl : l.length ≤ 1048576) : (ranksT l).length ≤ 1048576 := by rw [ranksT_len]; exact postT_small l hl
theorem ranksT_get (l : List S65) (h : treeP (lab l) (dep l) l.length) (i : Nat) (hi : i < l.length) : (ranksT l).getD i 0 = rnk (dep l) l.length i := by
  have hp := postT_is l h
  have hn := postT_n l h
  have he := end_root h
  refine X.setGo_get (rnk (dep l) l.length) l.length (postT l) 0 _ (by rw [List.length_replicate, hn]) (fun m hm => by rw [rank_at h hp m hm]; omega) (fun x hx => ?_) (fun j hj => .inl ((hp.1 _).2 ⟨j, rfl, by omega, by omega⟩)) i hi
  have := postT_range l x hx
  omega
/-- For each rank, the rank of the first leaf under its node. -/
noncomputable def leafT (l : List S65) : List Int := (postT l).map fun x => x - dep l x.toNat
theorem leafT_len (l : List S65) : (leafT l).length = (postT l).length := by unfold leafT; rw [List.length_map]
theorem leafT_small (l : List S65) (hl : l.length ≤ 1048576) : (leafT l).length ≤ 1048576 := by rw [leafT_len]; exact postT_small l hl
theorem leafT_range (l : List S65) (x : Int) (hx : x ∈ leafT l) : 0 ≤ x ∧ x < 24 := by
  unfold leafT at hx
  obtain ⟨y, hy, rfl⟩ := List.mem_map.1 hx
  obtain ⟨h, i, rfl, hi⟩ := postT_node l y hy
  have hw := dep_walk h 0 i (by omega)
  rw [Nat.zero_add, dep_zero h] at hw
  have hd := dep_range h hi
  have hn := h.1
  rw [Int.toNat_natCast]
  omega
theorem leafT_get (l : List S65) (k : Nat) : 0 ≤ (leafT l).getD k 0 ∧ (leafT l).getD k 0 < 24 := by
  by_cases c : k < (leafT l).length
  · have e : (leafT l).getD k 0 = (leafT l)[k] := by simp [List.getD_eq_getElem?_getD, c]
    rw [e]
    exact leafT_range l _ (List.getElem_mem c)
  · have e : (leafT l).getD k 0 = 0 := by simp [List.getD_eq_getElem?_getD, List.getElem?_eq_none (Nat.le_of_not_lt c)]
    omega
/-- Of all ranks with one first leaf the greatest. -/
noncomputable def rootsT (l : List S65) : List Int := X.rootGo (leafT l) (leafT l).length 0
theorem rootsT_small (l : List S65) (hl : l.length ≤ 1048576) : (rootsT l).length ≤ 1048576 := Nat.le_trans (X.rootGo_len _ _ _) (leafT_small l hl)
theorem rootsT_len (l : List S65) : (rootsT l).length ≤ 24 := by
  have := X.rootGo_len (leafT l) (leafT l).length 0
  have := leafT_len l
  have := postT_len l
  unfold rootsT
  omega
theorem rootsT_range (l : List S65) (x : Int) (hx : x ∈ rootsT l) : 0 ≤ x ∧ x < (leafT l).length := by
  obtain ⟨j, e, _, hj⟩ := X.rootGo_mem _ _ _ x hx
  omega
/-- How many nodes are under each of these, itself among them. -/
noncomputable def termT (l : List S65) (r : Int) : Int := r - (leafT l).getD r.toNat 0 + 1
theorem termT_range (l : List S65) (x : Int) (hx : x ∈ rootsT l) : -24 ≤ termT l x ∧ termT l x ≤ 24 := by
  have h1 := rootsT_range l x hx
  have h2 := leafT_get l x.toNat
  have h3 := leafT_len l
  have h4 := postT_len l
  unfold termT
  omega
noncomputable def cellsT (l : List S65) : Int := X.sumL ((rootsT l).map (termT l))
theorem rdD (xs : List Int) (i : Nat) : rd xs (i : Int) = xs.getD i 0 := by unfold rd; simp
theorem dropD (xs : List Int) (j : Nat) (h : j < xs.length) : xs.drop j = xs.getD j 0 :: xs.drop (j + 1) := by
  rw [List.drop_eq_getElem_cons h]; simp [List.getD_eq_getElem?_getD, h]
theorem getD_in (xs : List Int) (j : Nat) (h : j < xs.length) : xs.getD j 0 ∈ xs := by
  have e : xs.getD j 0 = xs[j] := by simp [List.getD_eq_getElem?_getD, h]
  rw [e]; exact List.getElem_mem h
theorem mul_range {a b : Int} (ha : -576 ≤ a ∧ a ≤ 576) (hb : -576 ≤ b ∧ b ≤ 576) : -331776 ≤ a * b ∧ a * b ≤ 331776 := by
  have h1 : a.natAbs * b.natAbs ≤ 576 * 576 := Nat.mul_le_mul (by omega) (by omega)
  have h2 : (a * b).natAbs = a.natAbs * b.natAbs := Int.natAbs_mul a b
  omega
theorem part_range (l : List S65) (xs : List Int) (hx : ∀ x ∈ xs, x ∈ rootsT l) (hn : xs.length ≤ 24) : -576 ≤ X.sumL (xs.map (termT l)) ∧ X.sumL (xs.map (termT l)) ≤ 576 := by
  have := X.sumL_range 24 (by omega) (xs.map (termT l)) (fun y hy => by
    obtain ⟨x, h1, rfl⟩ := List.mem_map.1 hy
    exact termT_range l x (hx x h1))
  rw [List.length_map] at this
  omega
theorem cellsT_range (l : List S65) : -576 ≤ cellsT l ∧ cellsT l ≤ 576 := part_range l (rootsT l) (fun x h => h) (rootsT_len l)
theorem term_wrap (l : List S65) (x : Int) (hx : x ∈ rootsT l) : wrap64 (wrap64 (x - rd (leafT l) x) + 1) = termT l x := by
  have h1 := rootsT_range l x hx
  have h2 := leafT_get l x.toNat
  have h3 := leafT_len l
  have h4 := postT_len l
  have e : rd (leafT l) x = (leafT l).getD x.toNat 0 := rfl
  have e1 : wrap64 (x - (leafT l).getD x.toNat 0) = x - (leafT l).getD x.toNat 0 := w64 (by omega) (by omega)
  rw [e, e1]
  clear e1
  unfold termT
  exact w64 (by omega) (by omega)
theorem take_roots (l : List S65) (j : Nat) (hj : j < (rootsT l).length) : X.sumL (((rootsT l).take (j + 1)).map (termT l)) = X.sumL (((rootsT l).take j).map (termT l)) + termT l ((rootsT l).getD j 0) := by
  have e : (rootsT l).take (j + 1) = (rootsT l).take j ++ [(rootsT l).getD j 0] := by
    rw [List.take_add_one]
    simp [List.getD_eq_getElem?_getD, hj]
  rw [e, List.map_append, X.sumL_app]
  simp [X.sumL]
theorem cellsT_no (l : List S65) (h : ¬ treeB (lab l) (dep l) l.length = true) : cellsT l = 0 := by
  have e : postT l = [] := postT_no l (fun c => h (treeB_iff.2 c))
  unfold cellsT rootsT leafT
  rw [e]
  rfl

/-! impl_within -/
theorem impl_within_eq (a b c : Int) : impl_within.f a b c = some (decide (b ≤ a ∧ a ≤ c)) := by
  unfold impl_within.f
  by_cases h : b ≤ a
  · rw [if_pos h]; simp [h]
  · rw [if_neg h]; simp [h]

/-! impl_LabelOk -/
theorem impl_LabelOk_eq (a : Int) : impl_LabelOk.f a = some (decide (0 ≤ a ∧ a ≤ 5)) := by
  unfold impl_LabelOk.f; simp only [impl_within_eq, Option.bind_some]

/-! impl_depthOk -/
theorem impl_depthOk_eq (l : List S65) (i : Nat) (hi : i < l.length) (hl : l.length ≤ 1048576) (hp : 0 < i → -1 ≤ dep l (i - 1) ∧ dep l (i - 1) ≤ 12) :
    impl_depthOk.f l (i : Int) = some (decide ((i = 0 → dep l i = 0) ∧ (0 < i → 1 ≤ dep l i ∧ dep l i ≤ dep l (i - 1) + 1))) := by
  unfold impl_depthOk.f
  by_cases h0 : i = 0
  · subst h0
    rw [if_pos (show ((0 : Nat) : Int) = 0 by rfl), if_pos (by omega)]
    have : rd_T65 l 0 = l.getD 0 z65 := rdN l 0
    rw [this]
    congr 1
    by_cases hz : dep l 0 = 0
    · rw [decide_eq_true ⟨fun _ => hz, fun h => by omega⟩]; show (dep l 0 == 0) = true; rw [hz]; rfl
    · rw [decide_eq_false (fun h => hz (h.1 rfl))]; show (dep l 0 == 0) = false; exact beq_eq_false_iff_ne.mpr hz
  · have hp := hp (by omega)
    have c3 : ¬ ((i : Int) = 0) := by omega
    have c4 : (0 : Int) ≤ (i : Int) := by omega
    have c5 : (i : Int) < (l.length : Int) := by omega
    have c6 : (0 : Int) ≤ ((i - 1 : Nat) : Int) := by omega
    have c7 : ((i - 1 : Nat) : Int) < (l.length : Int) := by omega
    have e3 : wrap64 ((i : Int) - 1) = ((i - 1 : Nat) : Int) := by rw [w64 (by omega) (by omega)]; omega
    rw [if_neg c3, if_pos c4, if_pos c5, e3, if_pos c6, if_pos c7, rdN, rdN]
    have e5 : wrap64 (dep l (i - 1) + 1) = dep l (i - 1) + 1 := w64 (by omega) (by omega)
    rw [e5, impl_within_eq]
    simp only [Option.bind_some]
    congr 1
    by_cases hz : 1 ≤ dep l i ∧ dep l i ≤ dep l (i - 1) + 1
    · rw [decide_eq_true hz, decide_eq_true ⟨fun h => absurd h h0, fun _ => hz⟩]
    · rw [decide_eq_false hz, decide_eq_false (fun h => hz (h.2 (by omega)))]

/-! impl_TreeOk -/
theorem impl_TreeOk_l0 (l : List S65) (hl : l.length ≤ 1048576) (hlen : 1 ≤ l.length ∧ l.length ≤ 24) (d : Nat) : ∀ i : Nat, i + d = l.length → (∀ j, j < i → nodeOk (lab l) (dep l) j) → Ev (fun k => impl_TreeOk.l0 k l l l.length i) (treeB (lab l) (dep l) l.length) := by
  induction d with
  | zero =>
    intro i hi hall
    refine Ev.step (fun k => by simp only [impl_TreeOk.l0]; rw [if_neg (by omega)]) ?_
    refine evSome ?_
    have e : i = l.length := by omega
    rw [treeB_all (by rw [← e]; exact hall), decide_eq_true hlen]
  | succ d ih =>
    intro i hi hall
    have hil : i < l.length := by omega
    have c1 : (i : Int) < (l.length : Int) := by omega
    have c2 : (0 : Int) ≤ (i : Int) := by omega
    refine Ev.step (fun k => by simp only [impl_TreeOk.l0]; rw [if_pos c1, if_pos c2, if_pos c1]) ?_
    have hd := impl_depthOk_eq l i hil hl (fun h0 => by
      have hp := hall (i - 1) (by omega)
      have := hp.2.2.1
      exact ⟨by omega, hp.2.2.2.1⟩)
    have e4 : wrap64 ((i : Int) + 1) = ((i + 1 : Nat) : Int) := by rw [w64 (by omega) (by omega)]; rfl
    simp only [impl_LabelOk_eq, impl_within_eq, hd, Option.bind_some, rdN, decide_eq_true_eq, e4]
    by_cases h1 : 0 ≤ lab l i ∧ lab l i ≤ 5
    · simp only [if_pos h1]
      by_cases h2 : 0 ≤ dep l i ∧ dep l i ≤ 12
      · simp only [if_pos h2]
        by_cases h3 : (i = 0 → dep l i = 0) ∧ (0 < i → 1 ≤ dep l i ∧ dep l i ≤ dep l (i - 1) + 1)
        · simp only [if_pos h3]
          refine ih (i + 1) (by omega) (fun j hj => ?_)
          by_cases hji : j < i
          · exact hall j hji
          · have : j = i := by omega
            subst this; exact ⟨h1.1, h1.2, h2.1, h2.2, h3.1, h3.2⟩
        · simp only [if_neg h3]
          exact evSome (treeB_no hil (fun h => h3 ⟨h.2.2.2.2.1, h.2.2.2.2.2⟩)).symm
      · simp only [if_neg h2]
        exact evSome (treeB_no hil (fun h => h2 ⟨h.2.2.1, h.2.2.2.1⟩)).symm
    · simp only [if_neg h1]
      exact evSome (treeB_no hil (fun h => h1 ⟨h.1, h.2.1⟩)).symm
theorem impl_TreeOk_ev (l : List S65) (hl : l.length ≤ 1048576) : Ev (fun k => impl_TreeOk.f k l) (treeB (lab l) (dep l) l.length) := by
  unfold impl_TreeOk.f
  simp only [impl_within_eq, Option.bind_some, decide_eq_true_eq]
  by_cases h : (1 : Int) ≤ (l.length : Int) ∧ (l.length : Int) ≤ 24
  · simp only [if_pos h]
    exact impl_TreeOk_l0 l hl (by omega) l.length 0 (by omega) (fun j hj => by omega)
  · simp only [if_neg h]
    exact evSome (treeB_len (by omega)).symm

/-! impl_endOf -/
theorem impl_endOf_l0 (l : List S65) (hl : l.length ≤ 1048576) (i : Nat) (hi : i < l.length) (d : Nat) : ∀ j : Nat, j + d = l.length → Ev (fun k => impl_endOf.l0 k l i j) ((endGo (dep l) (dep l i) d j : Nat) : Int) := by
  induction d with
  | zero =>
    intro j hj
    exact Ev.step (f := fun _ => some ((j : Nat) : Int)) (fun k => by simp only [impl_endOf.l0]; rw [if_neg (by omega)]) (Ev.now _)
  | succ d ih =>
    intro j hj
    have c1 : (j : Int) < (l.length : Int) := by omega
    have c2 : (0 : Int) ≤ (j : Int) := by omega
    have c3 : (0 : Int) ≤ (i : Int) := by omega
    have c4 : (i : Int) < (l.length : Int) := by omega
    have e4 : wrap64 ((j : Int) + 1) = ((j + 1 : Nat) : Int) := by rw [w64 (by omega) (by omega)]; rfl
    refine Ev.step (fun k => by simp only [impl_endOf.l0]; rw [if_pos c1, if_pos c2, if_pos c3, if_pos c4, e4, rdN, rdN]) ?_
    simp only [endGo]
    by_cases h : dep l j > dep l i
    · simp only [if_pos h]; exact ih (j + 1) (by omega)
    · simp only [if_neg h]; exact Ev.now _

theorem impl_endOf_ev (l : List S65) (hl : l.length ≤ 1048576) (i : Nat) (hi : i < l.length) : Ev (fun k => impl_endOf.f k l i) ((endI (dep l) l.length i : Nat) : Int) := by
  unfold impl_endOf.f
  have e4 : wrap64 ((i : Int) + 1) = ((i + 1 : Nat) : Int) := by rw [w64 (by omega) (by omega)]; rfl
  simp only [e4]
  exact impl_endOf_l0 l hl i hi (l.length - (i + 1)) (i + 1) (by omega)

/-! impl_PostOrder -/
theorem ends_ev (l : List S65) (hl : l.length ≤ 1048576) : ∀ m : Nat, m ≤ l.length → ∃ K, ∀ k, K ≤ k → ∀ i : Nat, i < m → impl_endOf.f k l (i : Int) = some ((endI (dep l) l.length i : Nat) : Int) := by
  intro m
  induction m with
  | zero => intro _; exact ⟨0, fun k _ i hi => by omega⟩
  | succ m ih =>
    intro hm
    obtain ⟨K, hK⟩ := ih (by omega)
    obtain ⟨K2, hK2⟩ := impl_endOf_ev l hl m (by omega)
    refine ⟨max K K2, fun k hk i hi => ?_⟩
    by_cases c : i = m
    · subst c; exact hK2 k (by omega)
    · exact hK k (by omega) i (by omega)
theorem impl_PostOrder_ev (l : List S65) (hl : l.length ≤ 1048576) : Ev (fun k => impl_PostOrder.f k l) (postT l) := by
  unfold impl_PostOrder.f postT
  refine Ev.bind (impl_TreeOk_ev l hl) ?_
  by_cases h : treeB (lab l) (dep l) l.length = true
  · rw [if_pos h]
    have ht := treeB_iff.1 h
    have hn := ht.1
    simp only [if_pos h]
    rw [postN_eq (V.sorted_post ht)]
    obtain ⟨K, hK⟩ := ends_ev l hl l.length (Nat.le_refl _)
    refine ⟨K, fun k hk => ?_⟩
    have hE : ∀ i, i < l.length → impl_PostOrder.E k l i = V.endE (dep l) l.length i := by
      intro i hi
      unfold impl_PostOrder.E V.endE
      rw [hK k hk i hi]
      rfl
    have hc : S.cmpE (impl_PostOrder.E k l) l.length = S.cmpE (V.endE (dep l) l.length) l.length := by
      funext x y
      unfold S.cmpE
      rw [hE _ (by omega), hE _ (by omega)]
    have hok : impl_PostOrder.ok k l := by
      refine ⟨by omega, by omega, fun i hi => by rw [hK k hk i hi]; rfl, ?_⟩
      have hsw := S.swo_to _ _ (by omega) (V.swo_rank ht)
      unfold S.swoF at hsw ⊢
      rw [hc]
      exact hsw
    simp only [if_pos hok]
    unfold S.sorted
    rw [hc]
  · rw [if_neg h]
    simp only [if_neg h]
    exact Ev.now _

/-! impl_RankOf -/
theorem impl_RankOf_l0 (p : List Int) (hp : p.length ≤ 1048576) (hr : ∀ x ∈ p, 0 ≤ x ∧ x < (p.length : Int)) (d : Nat) : ∀ (j : Nat) (acc : List Int), j + d = p.length → acc.length = p.length → Ev (fun k => impl_RankOf.l0 k acc p p.length j) (X.setGo (p.drop j) j acc) := by
  induction d with
  | zero =>
    intro j acc hj ha
    rw [List.drop_of_length_le (by omega)]
    have c0 : ¬ ((j : Int) < (p.length : Int)) := by omega
    exact Ev.step (f := fun _ => some acc) (fun k => by simp only [impl_RankOf.l0]; rw [if_neg c0]) (Ev.now _)
  | succ d ih =>
    intro j acc hj ha
    have hjl : j < p.length := by omega
    have c0 : (j : Int) < (p.length : Int) := by omega
    have c1 : (0 : Int) ≤ (j : Int) := by omega
    have hx := hr _ (getD_in p j hjl)
    have c2 : (0 : Int) ≤ p.getD j 0 := hx.1
    have c3 : p.getD j 0 < (acc.length : Int) := by rw [ha]; exact hx.2
    have e4 : wrap64 ((j : Int) + 1) = ((j + 1 : Nat) : Int) := by rw [w64 (by omega) (by omega)]; rfl
    refine Ev.step (fun k => by simp only [impl_RankOf.l0]; rw [if_pos c0, if_pos c1, if_pos c0, rdD, if_pos c2, if_pos c3, e4]) ?_
    rw [dropD p j hjl]
    simp only [X.setGo]
    have := ih (j + 1) (acc.set (p.getD j 0).toNat (j : Int)) (by omega) (by rw [List.length_set, ha])
    rw [show (((j + 1 : Nat) : Int)) = (j : Int) + 1 by omega] at this ⊢
    exact this
theorem impl_RankOf_ev (l : List S65) (hl : l.length ≤ 1048576) : Ev (fun k => impl_RankOf.f k l) (ranksT l) := by
  unfold impl_RankOf.f ranksT
  have hs := postT_small l hl
  refine Ev.bind (impl_PostOrder_ev l hl) ?_
  have c1 : (0 : Int) ≤ ((postT l).length : Int) := by omega
  have c2 : (postT l).length ≤ 35184372088832 := by omega
  simp only [if_pos c1, Int.toNat_natCast, if_pos c2]
  have := impl_RankOf_l0 (postT l) hs (fun x hx => postT_range l x hx) (postT l).length 0 (List.replicate (postT l).length 0) (by omega) (by rw [List.length_replicate])
  simpa only [List.drop_zero, Int.natCast_zero] using this

/-! laws_big -/
theorem big_eq (c : List Int) : laws_big.f c = some (decide ((c.length : Int) > 1048576)) := rfl

/-! spec_l1Byte -/
theorem and255 (x : Int) : 0 ≤ Go.bits .and .i64 x 255 ∧ Go.bits .and .i64 x 255 ≤ 255 := by
  unfold Go.bits
  have h1 : (BitVec.ofInt 64 x &&& BitVec.ofInt 64 255).toNat ≤ 255 := by
    rw [BitVec.toNat_and]
    exact Nat.and_le_right
  have h2 : IntKind.i64.wrap ((BitVec.ofInt 64 x &&& BitVec.ofInt 64 255).toNat : Int) = ((BitVec.ofInt 64 x &&& BitVec.ofInt 64 255).toNat : Int) := wraps_i64 _ (by omega) (by omega)
  show 0 ≤ IntKind.i64.wrap ((BitVec.ofInt 64 x &&& BitVec.ofInt 64 255).toNat : Int) ∧ IntKind.i64.wrap ((BitVec.ofInt 64 x &&& BitVec.ofInt 64 255).toNat : Int) ≤ 255
  rw [h2]
  omega
theorem byte_ok (b : List Int) (hb : b.length ≤ 1048576) (i h : Int) (hi : 0 ≤ i ∧ i ≤ 1048576) : ∃ x i' h', spec_l1Byte.f b i h = some (x, i', h') ∧ (0 ≤ x ∧ x ≤ 255) ∧ (0 ≤ i' ∧ i' ≤ 1048576) := by
  unfold spec_l1Byte.f
  by_cases c : i < (b.length : Int)
  · rw [if_pos c, if_pos hi.1]
    refine ⟨_, _, _, rfl, and255 _, ?_⟩
    rw [w64 (by omega) (by omega)]; omega
  · rw [if_neg c]
    exact ⟨_, _, _, rfl, and255 _, hi⟩

/-! spec_l1Below -/
theorem below_ok (b : List Int) (hb : b.length ≤ 1048576) (i h : Int) (hi : 0 ≤ i ∧ i ≤ 1048576) (n : Int) : ∃ x i' h', spec_l1Below.f b i h n = some (x, i', h') ∧ (0 ≤ x ∧ (0 < n → x < n) ∧ (n ≤ 0 → x = 0)) ∧ (0 ≤ i' ∧ i' ≤ 1048576) := by
  unfold spec_l1Below.f
  by_cases c : n ≤ 0
  · rw [if_pos c]
    exact ⟨_, _, _, rfl, ⟨by omega, by omega, fun _ => rfl⟩, hi⟩
  · rw [if_neg c]
    by_cases c2 : n ≤ 256
    · rw [if_pos c2]
      obtain ⟨x, i1, h1, e1, hx, hi1⟩ := byte_ok b hb i h hi
      rw [e1]
      simp only [Option.bind_some]
      rw [if_neg (by omega)]
      refine ⟨_, _, _, rfl, ⟨?_, ?_, ?_⟩, hi1⟩
      · rw [Int.tmod_eq_emod_of_nonneg hx.1]; exact Int.emod_nonneg _ (by omega)
      · intro _; rw [Int.tmod_eq_emod_of_nonneg hx.1]; exact Int.emod_lt_of_pos _ (by omega)
      · intro g; omega
    · rw [if_neg c2]
      obtain ⟨x1, i1, h1, e1, hx1, hi1⟩ := byte_ok b hb i h hi
      rw [e1]
      simp only [Option.bind_some]
      obtain ⟨x2, i2, h2, e2, hx2, hi2⟩ := byte_ok b hb i1 h1 hi1
      rw [e2]
      simp only [Option.bind_some]
      obtain ⟨x3, i3, h3, e3, hx3, hi3⟩ := byte_ok b hb i2 h2 hi2
      rw [e3]
      simp only [Option.bind_some]
      obtain ⟨x4, i4, h4, e4, hx4, hi4⟩ := byte_ok b hb i3 h3 hi3
      rw [e4]
      simp only [Option.bind_some]
      rw [if_neg (by omega)]
      clear e1 e2 e3 e4
      have g1 : wrap64 (x1 * 16777216) = x1 * 16777216 := w64 (by omega) (by omega)
      have g2 : wrap64 (x2 * 65536) = x2 * 65536 := w64 (by omega) (by omega)
      have g3 : wrap64 (x3 * 256) = x3 * 256 := w64 (by omega) (by omega)
      rw [g1, g2, g3]
      clear g1 g2 g3
      have g4 : wrap64 (x1 * 16777216 + x2 * 65536) = x1 * 16777216 + x2 * 65536 := w64 (by omega) (by omega)
      rw [g4]
      clear g4
      have g5 : wrap64 (x1 * 16777216 + x2 * 65536 + x3 * 256) = x1 * 16777216 + x2 * 65536 + x3 * 256 := w64 (by omega) (by omega)
      rw [g5]
      clear g5
      have g6 : wrap64 (x1 * 16777216 + x2 * 65536 + x3 * 256 + x4) = x1 * 16777216 + x2 * 65536 + x3 * 256 + x4 := w64 (by omega) (by omega)
      rw [g6]
      clear g6
      have g7 : 0 ≤ x1 * 16777216 + x2 * 65536 + x3 * 256 + x4 := by omega
      refine ⟨_, _, _, rfl, ⟨?_, ?_, ?_⟩, hi4⟩
      · rw [Int.tmod_eq_emod_of_nonneg g7]; exact Int.emod_nonneg _ (by omega)
      · intro _; rw [Int.tmod_eq_emod_of_nonneg g7]; exact Int.emod_lt_of_pos _ (by omega)
      · intro g; omega

/-! spec_l2Label -/
theorem label_ok (b : List Int) (hb : b.length ≤ 1048576) (i h : Int) (hi : 0 ≤ i ∧ i ≤ 1048576) : ∃ x i' h', spec_l2Label.f b i h = some (x, i', h') ∧ (0 ≤ x ∧ x < 4) ∧ (0 ≤ i' ∧ i' ≤ 1048576) := by
  obtain ⟨x, i1, h1, e1, hx, hi1⟩ := below_ok b hb i h hi 4
  unfold spec_l2Label.f
  rw [e1]
  exact ⟨_, _, _, rfl, ⟨hx.1, hx.2.1 (by omega)⟩, hi1⟩

/-! spec_l1Once -/
theorem once_ok (b : List Int) (hb : b.length ≤ 1048576) (i h : Int) (hi : 0 ≤ i ∧ i ≤ 1048576) (n : Int) : ∃ x i' h', spec_l1Once.f b i h n = some (x, i', h') ∧ (0 ≤ i' ∧ i' ≤ 1048576) := by
  obtain ⟨x, i1, h1, e1, _, hi1⟩ := below_ok b hb i h hi n
  unfold spec_l1Once.f
  rw [e1]
  exact ⟨_, _, _, rfl, hi1⟩

/-! spec_l3Tree -/
theorem tree_l0 (b : List Int) (hb : b.length ≤ 1048576) (d : Nat) : ∀ (l : List S65) (i h : Int), 0 < l.length → l.length + d ≤ 1000 → (0 ≤ i ∧ i ≤ 1048576) →
    ∃ l' i' h', Ev (fun k => spec_l3Tree.l0 k l d b i h) (l', i', h') ∧ l'.length = l.length + d ∧ (0 ≤ i' ∧ i' ≤ 1048576) := by
  induction d with
  | zero =>
    intro l i h hl hd hi
    exact ⟨l, i, h, Ev.step (f := fun _ => some (l, i, h)) (fun k => by rw [spec_l3Tree.l0, if_neg (by decide)]) (Ev.now _), rfl, hi⟩
  | succ d ih =>
    intro l i h hl hd hi
    have c1 : ((d + 1 : Nat) : Int) > 0 := by omega
    have e1 : wrap64 ((l.length : Int) - 1) = (l.length : Int) - 1 := w64 (by omega) (by omega)
    have c2 : (0 : Int) ≤ (l.length : Int) - 1 := by omega
    have c3 : (l.length : Int) - 1 < (l.length : Int) := by omega
    have e2 : wrap64 (((d + 1 : Nat) : Int) - 1) = (d : Int) := by rw [w64 (by omega) (by omega)]; omega
    have c4 : l.length < 8796093022208 := by omega
    obtain ⟨x1, i1, h1, f1, hx1, hi1⟩ := below_ok b hb i h hi (wrap64 (((rd_T65 l ((l.length : Int) - 1)).f1) + 1))
    obtain ⟨x2, i2, h2, f2, hi2⟩ := once_ok b hb i1 h1 hi1 2
    obtain ⟨x3, i3, h3, f3, hx3, hi3⟩ := label_ok b hb i2 h2 hi2
    have go : ∀ x : S65, ∃ l' i' h', Ev (fun k => spec_l3Tree.l0 k (l ++ [x]) d b i3 h3) (l', i', h') ∧ l'.length = l.length + (d + 1) ∧ (0 ≤ i' ∧ i' ≤ 1048576) := by
      intro x
      obtain ⟨l', i', h', a1, a2, a3⟩ := ih (l ++ [x]) i3 h3 (by simp) (by simp; omega) hi3
      exact ⟨l', i', h', a1, by rw [a2]; simp; omega, a3⟩
    have key : ∃ x : S65, ∀ k, spec_l3Tree.l0 (k + 1) l ((d + 1 : Nat) : Int) b i h = spec_l3Tree.l0 k (l ++ [x]) d b i3 h3 := by
      cases x2 with
      | true =>
        by_cases g : (wrap64 (((rd_T65 l ((l.length : Int) - 1)).f1) + 1)) > 12
        · exact ⟨⟨x3, 1⟩, fun k => by rw [spec_l3Tree.l0, if_pos c1, e1, if_pos c2, if_pos c3, f1]; simp only [Option.bind_some]; rw [f2]; simp only [Option.bind_some, if_true]; rw [if_pos g, f3]; simp only [Option.bind_some]; rw [if_pos c4, e2]⟩
        · exact ⟨⟨x3, wrap64 (((rd_T65 l ((l.length : Int) - 1)).f1) + 1)⟩, fun k => by rw [spec_l3Tree.l0, if_pos c1, e1, if_pos c2, if_pos c3, f1]; simp only [Option.bind_some]; rw [f2]; simp only [Option.bind_some, if_true]; rw [if_neg g, f3]; simp only [Option.bind_some]; rw [if_pos c4, e2]⟩
      | false =>
        by_cases g : (wrap64 (1 + x1)) > 12
        · exact ⟨⟨x3, 1⟩, fun k => by rw [spec_l3Tree.l0, if_pos c1, e1, if_pos c2, if_pos c3, f1]; simp only [Option.bind_some]; rw [f2]; simp only [Option.bind_some, Bool.false_eq_true, if_false]; rw [if_pos g, f3]; simp only [Option.bind_some]; rw [if_pos c4, e2]⟩
        · exact ⟨⟨x3, wrap64 (1 + x1)⟩, fun k => by rw [spec_l3Tree.l0, if_pos c1, e1, if_pos c2, if_pos c3, f1]; simp only [Option.bind_some]; rw [f2]; simp only [Option.bind_some, Bool.false_eq_true, if_false]; rw [if_neg g, f3]; simp only [Option.bind_some]; rw [if_pos c4, e2]⟩
    obtain ⟨x, hx⟩ := key
    obtain ⟨l', i', h', a1, a2, a3⟩ := go x
    exact ⟨l', i', h', Ev.step hx a1, a2, a3⟩
theorem tree_ok (b : List Int) (hb : b.length ≤ 1048576) (i h : Int) (hi : 0 ≤ i ∧ i ≤ 1048576) (n : Nat) (hn : n ≤ 500) : ∃ l i' h', Ev (fun k => spec_l3Tree.f k b i h n) (l, i', h') ∧ (0 < l.length ∧ l.length ≤ n + 1) ∧ (0 ≤ i' ∧ i' ≤ 1048576) := by
  obtain ⟨x1, i1, h1, f1, hx1, hi1⟩ := label_ok b hb i h hi
  obtain ⟨x2, i2, h2, f2, hx2, hi2⟩ := below_ok b hb i1 h1 hi1 (n : Int)
  have hx : x2 ≤ n := by
    by_cases g : (0 : Int) < n
    · have := hx2.2.1 g; omega
    · have := hx2.2.2 (by omega); omega
  obtain ⟨m, rfl⟩ := Int.eq_ofNat_of_zero_le hx2.1
  obtain ⟨l', i', h', a1, a2, a3⟩ := tree_l0 b hb m [⟨x1, 0⟩] i2 h2 (by simp) (by simp; omega) hi2
  refine ⟨l', i', h', ?_, ⟨by rw [a2]; simp; omega, by rw [a2]; simp; omega⟩, a3⟩
  unfold spec_l3Tree.f
  rw [f1]
  simp only [Option.bind_some]
  rw [f2]
  exact a1

/-! spec_l1PickInt -/
theorem pickInt_ok (b : List Int) (hb : b.length ≤ 1048576) (i h : Int) (hi : 0 ≤ i ∧ i ≤ 1048576) (l : List Int) (hl : 0 < l.length) : ∃ x i' h', spec_l1PickInt.f b i h l = some (x, i', h') ∧ x ∈ l ∧ (0 ≤ i' ∧ i' ≤ 1048576) := by
  obtain ⟨x, i1, h1, e1, hx, hi1⟩ := below_ok b hb i h hi (l.length : Int)
  unfold spec_l1PickInt.f
  rw [e1]
  simp only [Option.bind_some]
  have hlt := hx.2.1 (by omega)
  rw [if_pos hx.1, if_pos hlt]
  refine ⟨_, _, _, rfl, ?_, hi1⟩
  unfold rd
  have hn : x.toNat < l.length := by omega
  rw [List.getD_eq_getElem?_getD, List.getElem?_eq_getElem hn]
  exact List.getElem_mem hn

/-! spec_l2Any -/
theorem any_ok (b : List Int) (hb : b.length ≤ 1048576) (i h : Int) (hi : 0 ≤ i ∧ i ≤ 1048576) : ∃ x i' h', spec_l2Any.f b i h = some (x, i', h') ∧ (-1 ≤ x ∧ x ≤ 6) ∧ (0 ≤ i' ∧ i' ≤ 1048576) := by
  obtain ⟨x, i1, h1, e1, hx, hi1⟩ := pickInt_ok b hb i h hi [0, 1, 2, 3, 5, 6, -1] (by decide)
  unfold spec_l2Any.f
  rw [e1]
  refine ⟨_, _, _, rfl, ?_, hi1⟩
  simp only [List.mem_cons, List.not_mem_nil, or_false] at hx
  omega

/-! spec_l3Any -/
theorem any_loop0 (b : List Int) (hb : b.length ≤ 1048576) (d : Nat) : ∀ (l : List S65) (i h : Int), l.length + d = 600 → (0 ≤ i ∧ i ≤ 1048576) → ∃ l' i' h', Ev (fun k => spec_l3Any.l0 k l b i h) (l', i', h') ∧ l'.length ≤ 600 ∧ (0 ≤ i' ∧ i' ≤ 1048576) := by
  induction d with
  | zero =>
    intro l i h hl hi
    obtain ⟨x1, i1, h1, f1, hx1, hi1⟩ := below_ok b hb i h hi 2
    have := hx1.2.1 (by omega)
    have e1 : wrap64 (24 + x1) = 24 + x1 := w64 (by omega) (by omega)
    exact ⟨l, i1, h1, Ev.step (f := fun _ => some (l, i1, h1)) (fun k => by rw [spec_l3Any.l0, f1]; simp only [Option.bind_some]; rw [e1, if_neg (by omega)]) (Ev.now _), by omega, hi1⟩
  | succ d ih =>
    intro l i h hl hi
    obtain ⟨x1, i1, h1, f1, hx1, hi1⟩ := below_ok b hb i h hi 2
    by_cases g : (l.length : Int) < wrap64 (24 + x1)
    · obtain ⟨l', i', h', a1, a2, a3⟩ := ih (l ++ [⟨1, 1⟩]) i1 h1 (by simp; omega) hi1
      exact ⟨l', i', h', Ev.step (fun k => by rw [spec_l3Any.l0, f1]; simp only [Option.bind_some]; rw [if_pos g, if_pos (by omega)]) a1, a2, a3⟩
    · exact ⟨l, i1, h1, Ev.step (f := fun _ => some (l, i1, h1)) (fun k => by rw [spec_l3Any.l0, f1]; simp only [Option.bind_some]; rw [if_neg g]) (Ev.now _), by omega, hi1⟩
theorem any_loop1 (b : List Int) (hb : b.length ≤ 1048576) (d : Nat) : ∀ (l : List S65) (i h : Int), l.length + d = 600 → (0 ≤ i ∧ i ≤ 1048576) → ∃ l' i' h', Ev (fun k => spec_l3Any.l1 k l b i h) (l', i', h') ∧ l'.length ≤ 600 ∧ (0 ≤ i' ∧ i' ≤ 1048576) := by
  induction d with
  | zero =>
    intro l i h hl hi
    obtain ⟨x1, i1, h1, f1, hx1, hi1⟩ := below_ok b hb i h hi 2
    have := hx1.2.1 (by omega)
    have e1 : wrap64 (13 + x1) = 13 + x1 := w64 (by omega) (by omega)
    exact ⟨l, i1, h1, Ev.step (f := fun _ => some (l, i1, h1)) (fun k => by rw [spec_l3Any.l1, f1]; simp only [Option.bind_some]; rw [e1, if_neg (by omega)]) (Ev.now _), by omega, hi1⟩
  | succ d ih =>
    intro l i h hl hi
    obtain ⟨x1, i1, h1, f1, hx1, hi1⟩ := below_ok b hb i h hi 2
    by_cases g : (l.length : Int) < wrap64 (13 + x1)
    · obtain ⟨l', i', h', a1, a2, a3⟩ := ih (l ++ [⟨0, (l.length : Int)⟩]) i1 h1 (by simp; omega) hi1
      exact ⟨l', i', h', Ev.step (fun k => by rw [spec_l3Any.l1, f1]; simp only [Option.bind_some]; rw [if_pos g, if_pos (by omega)]) a1, a2, a3⟩
    · exact ⟨l, i1, h1, Ev.step (f := fun _ => some (l, i1, h1)) (fun k => by rw [spec_l3Any.l1, f1]; simp only [Option.bind_some]; rw [if_neg g]) (Ev.now _), by omega, hi1⟩
theorem l3Any_ok (b : List Int) (hb : b.length ≤ 1048576) (i h : Int) (hi : 0 ≤ i ∧ i ≤ 1048576) (n : Nat) (hn : n ≤ 500) : ∃ l i' h', Ev (fun k => spec_l3Any.f k b i h n) (l, i', h') ∧ l.length ≤ 600 ∧ (0 ≤ i' ∧ i' ≤ 1048576) := by
  obtain ⟨t, i1, h1, f1, ht, hi1⟩ := tree_ok b hb i h hi n hn
  obtain ⟨x2, i2, h2, f2, hx2, hi2⟩ := below_ok b hb i1 h1 hi1 (t.length : Int)
  obtain ⟨x3, i3, h3, f3, hx3, hi3⟩ := below_ok b hb i2 h2 hi2 18
  have hlt := hx2.2.1 (by omega)
  suffices key : ∃ l i' h', Ev (fun k => if x3 = 0 then ((spec_l2Any.f b i3 h3).bind fun bt233 => (if 0 ≤ x2 then (if x2 < (t.length : Int) then (some ((t.set (x2 : Int).toNat (⟨bt233.1, (rd_T65 t x2).f1⟩ : S65)), bt233.2.1, bt233.2.2)) else (none)) else (none))) else (if x3 = 1 then (if 0 ≤ x2 then (if x2 < (t.length : Int) then ((spec_l1PickInt.f b i3 h3 (([(-1), 0, 1, 13, wrap64 (((rd_T65 t x2).f1) + 1)] : List Int))).bind fun bt241 => (some ((t.set (x2 : Int).toNat (⟨(rd_T65 t x2).f0, bt241.1⟩ : S65)), bt241.2.1, bt241.2.2))) else (none)) else (none)) else (if x3 = 2 then (if 1 ≤ (t.length : Int) then (some ((t.drop (1 : Int).toNat), i3, h3)) else (none)) else (if x3 = 3 then (spec_l3Any.l0 k t b i3 h3) else (if x3 = 4 then (spec_l3Any.l1 k (([(⟨0, 0⟩ : S65)] : List (S65))) b i3 h3) else (some (t, i3, h3))))))) (l, i', h') ∧ l.length ≤ 600 ∧ (0 ≤ i' ∧ i' ≤ 1048576) by
    obtain ⟨l, i', h', a1, a2, a3⟩ := key
    refine ⟨l, i', h', ?_, a2, a3⟩
    unfold spec_l3Any.f
    refine Ev.bind f1 ?_
    simp only [f2, f3, Option.bind_some]
    exact a1
  by_cases g0 : x3 = 0
  · obtain ⟨x4, i4, h4, f4, _, hi4⟩ := any_ok b hb i3 h3 hi3
    simp only [if_pos g0, f4, Option.bind_some, if_pos hx2.1, if_pos hlt]
    exact ⟨_, _, _, Ev.now _, by simp; omega, hi4⟩
  · simp only [if_neg g0]
    by_cases g1 : x3 = 1
    · obtain ⟨x4, i4, h4, f4, _, hi4⟩ := pickInt_ok b hb i3 h3 hi3 [(-1), 0, 1, 13, wrap64 (((rd_T65 t x2).f1) + 1)] (by simp)
      simp only [if_pos g1, f4, Option.bind_some, if_pos hx2.1, if_pos hlt]
      exact ⟨_, _, _, Ev.now _, by simp; omega, hi4⟩
    · simp only [if_neg g1]
      by_cases g2 : x3 = 2
      · simp only [if_pos g2, if_pos (show (1 : Int) ≤ (t.length : Int) by omega)]
        exact ⟨_, _, _, Ev.now _, by simp; omega, hi3⟩
      · simp only [if_neg g2]
        by_cases g3 : x3 = 3
        · simp only [if_pos g3]
          exact any_loop0 b hb (600 - t.length) t i3 h3 (by omega) hi3
        · simp only [if_neg g3]
          by_cases g4 : x3 = 4
          · simp only [if_pos g4]
            exact any_loop1 b hb 599 [⟨0, 0⟩] i3 h3 (by simp) hi3
          · simp only [if_neg g4]
            exact ⟨_, _, _, Ev.now _, by omega, hi3⟩

/-! spec_l1New -/
theorem new_l0 (c : List Int) (hc : c.length ≤ 1048576) (d : Nat) : ∀ (h : Int) (j : Nat), j + d = c.length → ∃ h', Ev (fun k => spec_l1New.l0 k c h j) (c, 0, h') := by
  induction d with
  | zero =>
    intro h j hj
    exact ⟨h, Ev.step (f := fun _ => some (c, 0, h)) (fun k => by rw [spec_l1New.l0, if_neg (by omega)]) (Ev.now _)⟩
  | succ d ih =>
    intro h j hj
    have c1 : (j : Int) < (c.length : Int) := by omega
    have c2 : (0 : Int) ≤ (j : Int) := by omega
    have e4 : wrap64 ((j : Int) + 1) = ((j + 1 : Nat) : Int) := by rw [w64 (by omega) (by omega)]; rfl
    by_cases g : (j : Int) < 4000
    · obtain ⟨h', a⟩ := ih (Go.bits .and .i64 (wrap64 ((wrap64 ((wrap64 (h * 131)) + (wrap64 (rd c j)))) + 7)) 1073741823) (j + 1) (by omega)
      exact ⟨h', Ev.step (fun k => by rw [spec_l1New.l0, if_pos c1, if_pos g, if_pos c2, e4]) a⟩
    · exact ⟨h, Ev.step (f := fun _ => some (c, 0, h)) (fun k => by rw [spec_l1New.l0, if_pos c1, if_neg g]) (Ev.now _)⟩
theorem new_ok (c : List Int) (hc : c.length ≤ 1048576) : ∃ h', Ev (fun k => spec_l1New.f k c) (c, 0, h') := new_l0 c hc c.length _ 0 (by omega)

/-! impl_LeftLeaf -/
theorem impl_LeftLeaf_l0 (l : List S65) (hl : l.length ≤ 1048576) (d : Nat) : ∀ (j : Nat) (acc : List Int), j + d = (postT l).length → acc.length = j → Ev (fun k => impl_LeftLeaf.l0 k l acc (ranksT l) (postT l) (postT l).length j) (acc ++ ((postT l).drop j).map fun x => x - dep l x.toNat) := by
  have hs := postT_small l hl
  induction d with
  | zero =>
    intro j acc hj ha
    rw [List.drop_of_length_le (by omega), List.map_nil, List.append_nil]
    have c0 : ¬ ((j : Int) < ((postT l).length : Int)) := by omega
    exact Ev.step (f := fun _ => some acc) (fun k => by simp only [impl_LeftLeaf.l0]; rw [if_neg c0]) (Ev.now _)
  | succ d ih =>
    intro j acc hj ha
    have hjl : j < (postT l).length := by omega
    obtain ⟨ht, i, hi, hil⟩ := postT_node l _ (getD_in (postT l) j hjl)
    have hn := postT_n l ht
    have hrl := ranksT_len l
    have hend := endI_le (dep l) l.length i hil
    have hdr := dep_range ht hil
    have c0 : (j : Int) < ((postT l).length : Int) := by omega
    have c1 : (0 : Int) ≤ (j : Int) := by omega
    have c2 : (0 : Int) ≤ (i : Int) := by omega
    have c3 : (i : Int) < ((ranksT l).length : Int) := by omega
    have c4 : acc.length < 17592186044416 := by omega
    have e4 : wrap64 ((j : Int) + 1) = ((j + 1 : Nat) : Int) := by rw [w64 (by omega) (by omega)]; rfl
    have e5 : wrap64 (((endI (dep l) l.length i : Nat) : Int) - (i : Int)) = ((endI (dep l) l.length i : Nat) : Int) - (i : Int) := w64 (by omega) (by omega)
    have e6 : wrap64 (((endI (dep l) l.length i : Nat) : Int) - (i : Int) - 1) = ((endI (dep l) l.length i : Nat) : Int) - (i : Int) - 1 := w64 (by omega) (by omega)
    have e7 : wrap64 (rnk (dep l) l.length i - (((endI (dep l) l.length i : Nat) : Int) - (i : Int) - 1)) = (i : Int) - dep l i := by unfold rnk; rw [w64 (by omega) (by omega)]; omega
    refine Ev.step (fun k => by simp only [impl_LeftLeaf.l0]; rw [if_pos c0, if_pos c1, if_pos c0, rdD, hi, if_pos c2, if_pos c3]) ?_
    refine Ev.bind (impl_endOf_ev l hl i hil) ?_
    simp only [if_pos c4, e5, e6, rdD, ranksT_get l ht i hil, e7, e4]
    have := ih (j + 1) (acc ++ [(i : Int) - dep l i]) (by omega) (by simp; omega)
    rw [dropD (postT l) j hjl, List.map_cons, hi, Int.toNat_natCast]
    simpa only [List.append_assoc, List.cons_append, List.nil_append] using this
theorem impl_LeftLeaf_ev (l : List S65) (hl : l.length ≤ 1048576) : Ev (fun k => impl_LeftLeaf.f k l) (leafT l) := by
  unfold impl_LeftLeaf.f leafT
  refine Ev.bind (impl_RankOf_ev l hl) (Ev.bind (impl_PostOrder_ev l hl) ?_)
  have := impl_LeftLeaf_l0 l hl (postT l).length 0 [] (by omega) (by simp)
  simpa only [List.drop_zero, Int.natCast_zero, List.nil_append] using this

/-! slices_Index_int_int -/
theorem sIndex_l0 (x : Int) (xs : List Int) (hx : xs.length ≤ 1048576) (d : Nat) : ∀ j : Nat, j + d = xs.length → Ev (fun k => slices_Index_int_int.l0 k xs x xs.length j) (idxGo x (xs.drop j) j) := by
  induction d with
  | zero =>
    intro j hj
    rw [List.drop_of_length_le (by omega)]
    exact Ev.step (f := fun _ => some (-1)) (fun k => by simp only [slices_Index_int_int.l0]; rw [if_neg (by omega)]) (Ev.now _)
  | succ d ih =>
    intro j hj
    have hjl : j < xs.length := by omega
    have c1 : (j : Int) < (xs.length : Int) := by omega
    have c2 : (0 : Int) ≤ (j : Int) := by omega
    have e4 : wrap64 ((j : Int) + 1) = ((j + 1 : Nat) : Int) := by rw [w64 (by omega) (by omega)]; rfl
    have er : rd xs (j : Int) = xs[j] := by unfold rd; simp [List.getD_eq_getElem?_getD, List.getElem?_eq_getElem hjl]
    rw [List.drop_eq_getElem_cons hjl]
    refine Ev.step (fun k => by simp only [slices_Index_int_int.l0]; rw [if_pos c1, if_pos c2, if_pos c1, e4, er]) ?_
    simp only [idxGo]
    by_cases h : x = xs[j]
    · simp only [if_pos h]; exact Ev.now _
    · simp only [if_neg h]; exact ih (j + 1) (by omega)
theorem sIndex_ev (x : Int) (xs : List Int) (hx : xs.length ≤ 1048576) : Ev (fun k => slices_Index_int_int.f k xs x) (idxGo x xs 0) := by
  unfold slices_Index_int_int.f
  have := sIndex_l0 x xs hx _ 0 (Nat.zero_add _)
  simpa using this

/-! slices_Contains_int_int -/
theorem contains_ev (x : Int) (xs : List Int) (hx : xs.length ≤ 1048576) : Ev (fun k => slices_Contains_int_int.f k xs x) (decide (x ∈ xs)) := by
  unfold slices_Contains_int_int.f
  refine Ev.bind (sIndex_ev x xs hx) ?_
  exact evSome (X.idxGo_mem x xs 0)

/-! impl_KeyRoots -/
theorem impl_KeyRoots_l0 (f : List Int) (hf : f.length ≤ 1048576) (d : Nat) : ∀ (j : Nat) (acc : List Int), j + d = f.length → acc.length ≤ j → Ev (fun k => impl_KeyRoots.l0 k acc f f f.length j) (acc ++ X.rootGo f d j) := by
  induction d with
  | zero =>
    intro j acc hj ha
    have c0 : ¬ ((j : Int) < (f.length : Int)) := by omega
    simp only [X.rootGo, List.append_nil]
    exact Ev.step (f := fun _ => some acc) (fun k => by simp only [impl_KeyRoots.l0]; rw [if_neg c0]) (Ev.now _)
  | succ d ih =>
    intro j acc hj ha
    have c0 : (j : Int) < (f.length : Int) := by omega
    have c1 : (0 : Int) ≤ (j : Int) := by omega
    have c2 : (0 : Int) ≤ ((j + 1 : Nat) : Int) := by omega
    have c3 : ((j + 1 : Nat) : Int) ≤ (f.length : Int) := by omega
    have c4 : acc.length < 17592186044416 := by omega
    have e4 : wrap64 ((j : Int) + 1) = ((j + 1 : Nat) : Int) := by rw [w64 (by omega) (by omega)]; rfl
    refine Ev.step (fun k => by simp only [impl_KeyRoots.l0]; rw [if_pos c0, if_pos c1, if_pos c0, e4, if_pos c2, if_pos c3, Int.toNat_natCast, rdD]) ?_
    refine Ev.bind (contains_ev _ _ (by rw [List.length_drop]; omega)) ?_
    simp only [X.rootGo, X.lastB]
    by_cases h : f.getD j 0 ∈ f.drop (j + 1)
    · have h2 : decide (f.getD j 0 ∈ f.drop (j + 1)) = true := decide_eq_true h
      simp only [h2, if_true, Bool.not_true, Bool.false_eq_true, if_false]
      exact ih (j + 1) acc (by omega) (by omega)
    · have h2 : decide (f.getD j 0 ∈ f.drop (j + 1)) = false := decide_eq_false h
      simp only [h2, Bool.not_false, Bool.false_eq_true, if_false, if_true, if_pos c4]
      have := ih (j + 1) (acc ++ [(j : Int)]) (by omega) (by simp; omega)
      simpa only [List.append_assoc, List.cons_append, List.nil_append] using this
theorem impl_KeyRoots_ev (l : List S65) (hl : l.length ≤ 1048576) : Ev (fun k => impl_KeyRoots.f k l) (rootsT l) := by
  unfold impl_KeyRoots.f rootsT
  refine Ev.bind (impl_LeftLeaf_ev l hl) ?_
  have := impl_KeyRoots_l0 (leafT l) (leafT_small l hl) (leafT l).length 0 [] (by omega) (by simp)
  simpa only [Int.natCast_zero, List.nil_append] using this

/-! spec_l1In -/
theorem spec_l1In_eq (a b c : Int) : spec_l1In.f a b c = some (decide (b ≤ a ∧ a ≤ c)) := by
  unfold spec_l1In.f
  by_cases h : b ≤ a
  · rw [if_pos h]; simp [h]
  · rw [if_neg h]; simp [h]

/-! spec_LabelOk -/
theorem spec_LabelOk_eq (a : Int) : spec_LabelOk.f a = some (decide (0 ≤ a ∧ a ≤ 5)) := by
  unfold spec_LabelOk.f; simp only [spec_l1In_eq, Option.bind_some]

/-! spec_TreeOk -/
theorem spec_TreeOk_l0 (l : List S65) (hl : l.length ≤ 1048576) (d : Nat) : ∀ i : Nat, i + d = l.length → (∀ j, j < i → nodeOk (lab l) (dep l) j) → Ev (fun k => spec_TreeOk.l0 k l i) (treeB (lab l) (dep l) l.length) := by
  induction d with
  | zero =>
    intro i hi hall
    refine Ev.step (fun k => by simp only [spec_TreeOk.l0]; rw [if_neg (by omega)]) ?_
    simp only [spec_l1In_eq, Option.bind_some]
    refine evSome ?_
    have e : i = l.length := by omega
    rw [treeB_all (by rw [← e]; exact hall)]
    congr 1; simp; omega
  | succ d ih =>
    intro i hi hall
    have hil : i < l.length := by omega
    have c1 : (i : Int) < (l.length : Int) := by omega
    have c2 : (0 : Int) ≤ (i : Int) := by omega
    refine Ev.step (fun k => by simp only [spec_TreeOk.l0]; rw [if_pos c1, if_pos c2]) ?_
    simp only [spec_LabelOk_eq, spec_l1In_eq, Option.bind_some, rdN, decide_eq_true_eq]
    by_cases h1 : 0 ≤ lab l i ∧ lab l i ≤ 5
    · simp only [if_pos h1]
      by_cases h2 : 0 ≤ dep l i ∧ dep l i ≤ 12
      · simp only [if_pos h2]
        by_cases h0 : i = 0
        · subst h0
          by_cases hz : dep l 0 = 0
          · have hb : ((dep l 0 == 0) != (((0 : Nat) : Int) == 0)) = false := by rw [hz]; rfl
            have hn := ih 1 (by omega) (fun j hj => by
              have : j = 0 := by omega
              subst this; exact ⟨h1.1, h1.2, h2.1, h2.2, fun _ => hz, fun h => by omega⟩)
            have e4 : wrap64 (((0 : Nat) : Int) + 1) = ((1 : Nat) : Int) := by rw [w64 (by omega) (by omega)]; rfl
            simp only [hb, Bool.false_eq_true, if_false, e4, if_neg (show ¬ ((0 : Nat) : Int) > 0 by omega)]
            exact hn
          · have hb : ((dep l 0 == 0) != (((0 : Nat) : Int) == 0)) = true := by simp [hz]
            simp only [hb, if_true]
            refine evSome (treeB_no hil ?_).symm
            intro h; exact hz (h.2.2.2.2.1 rfl)
        · have hiz : ((i : Int) == 0) = false := by simp; omega
          by_cases hz : dep l i = 0
          · have hb : ((dep l i == 0) != ((i : Int) == 0)) = true := by rw [hiz, hz]; rfl
            simp only [hb, if_true]
            refine evSome (treeB_no hil ?_).symm
            intro h; have := h.2.2.2.2.2 (by omega); omega
          · have hb : ((dep l i == 0) != ((i : Int) == 0)) = false := by rw [hiz]; simp [hz]
            have hp := hall (i - 1) (by omega)
            have hpr : 0 ≤ dep l (i - 1) ∧ dep l (i - 1) ≤ 12 := ⟨hp.2.2.1, hp.2.2.2.1⟩
            have hn : (1 ≤ dep l i ∧ dep l i ≤ dep l (i - 1) + 1) → _ := fun hd => ih (i + 1) (by omega) (fun j hj => by
              by_cases hji : j < i
              · exact hall j hji
              · have : j = i := by omega
                subst this; exact ⟨h1.1, h1.2, h2.1, h2.2, fun h => by omega, fun _ => hd⟩)
            have e3 : wrap64 ((i : Int) - 1) = ((i - 1 : Nat) : Int) := by rw [w64 (by omega) (by omega)]; omega
            have e4 : wrap64 ((i : Int) + 1) = ((i + 1 : Nat) : Int) := by rw [w64 (by omega) (by omega)]; rfl
            have c5 : (0 : Int) ≤ ((i - 1 : Nat) : Int) := by omega
            have c6 : ((i - 1 : Nat) : Int) < (l.length : Int) := by omega
            have e5 : wrap64 (dep l (i - 1) + 1) = dep l (i - 1) + 1 := w64 (by omega) (by omega)
            simp only [hb, Bool.false_eq_true, if_false, e3, e4, if_pos (show (i : Int) > 0 by omega), if_pos c5, if_pos c6, rdN, e5]
            by_cases hd : dep l i > dep l (i - 1) + 1
            · simp only [if_pos hd]
              refine evSome (treeB_no hil ?_).symm
              intro h; have := (h.2.2.2.2.2 (by omega)).2; omega
            · simp only [if_neg hd]
              exact hn ⟨by omega, by omega⟩
      · simp only [if_neg h2]
        exact evSome (treeB_no hil (fun h => h2 ⟨h.2.2.1, h.2.2.2.1⟩)).symm
    · simp only [if_neg h1]
      exact evSome (treeB_no hil (fun h => h1 ⟨h.1, h.2.1⟩)).symm
theorem spec_TreeOk_ev (l : List S65) (hl : l.length ≤ 1048576) : Ev (fun k => spec_TreeOk.f k l) (treeB (lab l) (dep l) l.length) :=
  spec_TreeOk_l0 l hl l.length 0 (by omega) (fun j hj => by omega)

/-! impl_LeavesOf -/
theorem impl_LeavesOf_l0 (l : List S65) (hl : l.length ≤ 1048576) (hb : treeB (lab l) (dep l) l.length = true) (d : Nat) : ∀ (j : Nat) (a : Int), j + d = l.length → 0 ≤ a → a ≤ j → Ev (fun k => impl_LeavesOf.l0 k l a l.length j) (leafGo (dep l) l.length d j a) := by
  induction d with
  | zero =>
    intro j a hj h0 h1
    exact Ev.step (f := fun _ => some a) (fun k => by simp only [impl_LeavesOf.l0]; rw [if_neg (by omega)]) (Ev.now _)
  | succ d ih =>
    intro j a hj h0 h1
    have hjl : j < l.length := by omega
    have c1 : (j : Int) < (l.length : Int) := by omega
    have hat : atB (lab l) (dep l) l.length (j : Int) = true := atB_iff.2 ⟨treeB_iff.1 hb, by omega, by omega⟩
    have e4 : wrap64 ((j : Int) + 1) = ((j + 1 : Nat) : Int) := by rw [w64 (by omega) (by omega)]; rfl
    have e5 : wrap64 (a + 1) = a + 1 := w64 (by omega) (by omega)
    refine Ev.step (fun k => by rw [impl_LeavesOf.l0, if_pos c1]) ?_
    refine Ev.bind (impl_endOf_ev l hl j hjl) ?_
    simp only [e4, leafGo]
    by_cases he : endI (dep l) l.length j = j + 1
    · have he' : ((endI (dep l) l.length j : Nat) : Int) = ((j + 1 : Nat) : Int) := by omega
      simp only [if_pos he, if_pos he', e5]
      exact ih (j + 1) _ (by omega) (by omega) (by omega)
    · have he' : ¬ ((endI (dep l) l.length j : Nat) : Int) = ((j + 1 : Nat) : Int) := by omega
      simp only [if_neg he, if_neg he']
      exact ih (j + 1) _ (by omega) (by omega) (by omega)
theorem impl_LeavesOf_ev (l : List S65) (hl : l.length ≤ 1048576) : Ev (fun k => impl_LeavesOf.f k l) (leavesT l) := by
  unfold impl_LeavesOf.f leavesT
  refine Ev.bind (impl_TreeOk_ev l hl) ?_
  by_cases h : treeB (lab l) (dep l) l.length = true
  · simp only [if_pos h]
    exact impl_LeavesOf_l0 l hl h l.length 0 0 (by omega) (by omega) (by omega)
  · simp only [if_neg h]; exact Ev.now _

/-! spec_l3At -/
theorem spec_l3At_ev (l : List S65) (hl : l.length ≤ 1048576) (a : Int) : Ev (fun k => spec_l3At.f k l a) (atB (lab l) (dep l) l.length a) := by
  unfold spec_l3At.f
  refine Ev.bind (spec_TreeOk_ev l hl) ?_
  have e : wrap64 ((l.length : Int) - 1) = (l.length : Int) - 1 := w64 (by omega) (by omega)
  simp only [spec_l1In_eq, Option.bind_some, e, atB]
  by_cases h : treeB (lab l) (dep l) l.length = true
  · simp only [h, if_true, Bool.true_and]; exact Ev.now _
  · simp only [Bool.eq_false_iff.mpr h, Bool.false_eq_true, if_false, Bool.false_and]; exact Ev.now _

/-! spec_EndOf -/
theorem spec_EndOf_l0 (l : List S65) (hl : l.length ≤ 1048576) (i : Nat) (hi : i < l.length) (d : Nat) : ∀ j : Nat, j + d = l.length → Ev (fun k => spec_EndOf.l0 k l i j) ((endGo (dep l) (dep l i) d j : Nat) : Int) := by
  induction d with
  | zero =>
    intro j hj
    exact Ev.step (f := fun _ => some ((j : Nat) : Int)) (fun k => by simp only [spec_EndOf.l0]; rw [if_neg (by omega)]) (Ev.now _)
  | succ d ih =>
    intro j hj
    have c1 : (j : Int) < (l.length : Int) := by omega
    have c2 : (0 : Int) ≤ (j : Int) := by omega
    have c3 : (0 : Int) ≤ (i : Int) := by omega
    have c4 : (i : Int) < (l.length : Int) := by omega
    have e4 : wrap64 ((j : Int) + 1) = ((j + 1 : Nat) : Int) := by rw [w64 (by omega) (by omega)]; rfl
    refine Ev.step (fun k => by simp only [spec_EndOf.l0]; rw [if_pos c1, if_pos c2, if_pos c3, if_pos c4, e4, rdN, rdN]) ?_
    simp only [endGo]
    by_cases h : dep l j > dep l i
    · simp only [if_pos h]; exact ih (j + 1) (by omega)
    · simp only [if_neg h]; exact Ev.now _

theorem spec_EndOf_ev (l : List S65) (hl : l.length ≤ 1048576) (a : Int) : Ev (fun k => spec_EndOf.f k l a) (if atB (lab l) (dep l) l.length a = true then ((endI (dep l) l.length a.toNat : Nat) : Int) else -1) := by
  unfold spec_EndOf.f
  refine Ev.bind (spec_l3At_ev l hl a) ?_
  by_cases h : atB (lab l) (dep l) l.length a = true
  · obtain ⟨i, rfl, hi, _⟩ := atB_nat h
    have e4 : wrap64 ((i : Int) + 1) = ((i + 1 : Nat) : Int) := by rw [w64 (by omega) (by omega)]; rfl
    simp only [if_pos h, e4, Int.toNat_natCast]
    exact spec_EndOf_l0 l hl i hi (l.length - (i + 1)) (i + 1) (by omega)
  · simp only [if_neg h]; exact Ev.now _

-- imports: Y
theorem post_get (l : List S65) (h : treeP (lab l) (dep l) l.length) (i : Nat) (hi : i < l.length) : (postT l).getD (rnk (dep l) l.length i).toNat 0 = (i : Int) := by
  have hp := postT_is l h
  have hn := postT_n l h
  have he := end_root h
  have hr := rnk_range h hi
  obtain ⟨m, hm, hmi⟩ := List.getElem_of_mem ((hp.1 (i : Int)).2 ⟨i, rfl, by omega, by omega⟩)
  have hk := rank_at h hp m hm
  rw [hmi, Int.toNat_natCast] at hk
  rw [hk, Int.toNat_natCast, List.getD_eq_getElem?_getD, List.getElem?_eq_getElem hm, hmi]
  rfl
theorem leaf_get (l : List S65) (h : treeP (lab l) (dep l) l.length) (i : Nat) (hi : i < l.length) : (leafT l).getD (rnk (dep l) l.length i).toNat 0 = (i : Int) - dep l i := by
  have hn := postT_n l h
  have hr := rnk_range h hi
  have hm : (rnk (dep l) l.length i).toNat < (postT l).length := by omega
  have hp := post_get l h i hi
  rw [List.getD_eq_getElem?_getD, List.getElem?_eq_getElem hm, Option.getD_some] at hp
  unfold leafT
  rw [List.getD_eq_getElem?_getD, List.getElem?_map, List.getElem?_eq_getElem hm, Option.map_some, Option.getD_some, hp, Int.toNat_natCast]
theorem roots_count (l : List S65) (h : treeP (lab l) (dep l) l.length) : ((rootsT l).length : Int) = leavesT l := by
  have hp := postT_is l h
  have hn := postT_n l h
  have he := end_root h
  have hv := Y.rootGo_vals (leafT l) (leafT l).length 0 (by omega)
  have hl := Y.leafL_nodup h l.length 0 (by omega)
  have hs := Y.same_len hv.1 hl (fun x => by
    rw [hv.2, List.drop_zero, Y.leafL_mem]
    unfold leafT
    rw [List.mem_map]
    constructor
    · rintro ⟨y, hy, rfl⟩
      obtain ⟨j, rfl, _, hj⟩ := (hp.1 y).1 hy
      rw [Int.toNat_natCast]
      obtain ⟨q, h1, h2, h3⟩ := Y.first_of h l.length j (by omega) (by omega)
      exact ⟨q, by omega, by omega, h2, h3⟩
    · rintro ⟨q, _, h1, _, rfl⟩
      exact ⟨(q : Int), (hp.1 _).2 ⟨q, rfl, by omega, by omega⟩, by rw [Int.toNat_natCast]⟩)
  rw [List.length_map] at hs
  unfold leavesT
  rw [if_pos (treeB_iff.2 h), Y.leafL_count]
  unfold rootsT
  omega
theorem index_l1 (l : List S65) (hl : l.length ≤ 1048576) (h : treeP (lab l) (dep l) l.length) (d : Nat) : ∀ j : Nat, 1 ≤ j → j + d = (rootsT l).length → Ev (fun k => laws_FnIndex.l1 k l (rootsT l) j) true := by
  have hlen := rootsT_len l
  have hn := postT_n l h
  have hll := leafT_len l
  have h1n := h.1
  have hup := Y.rootGo_up (leafT l) (leafT l).length 0
  obtain ⟨pre, hpre⟩ := Y.rootGo_last (leafT l) (leafT l).length 0 (by omega) (by omega)
  induction d with
  | zero =>
    intro j hj1 hj
    have c0 : ¬ ((j : Int) < ((rootsT l).length : Int)) := by omega
    have c1 : ((rootsT l).length : Int) > 0 := by omega
    have e5 : wrap64 (((rootsT l).length : Int) - 1) = (((rootsT l).length - 1 : Nat) : Int) := by rw [w64 (by omega) (by omega)]; omega
    have c2 : (0 : Int) ≤ (((rootsT l).length - 1 : Nat) : Int) := Int.natCast_nonneg _
    have c3 : (((rootsT l).length - 1 : Nat) : Int) < ((rootsT l).length : Int) := by clear e5; omega
    have e6 : wrap64 ((l.length : Int) - 1) = (((leafT l).length - 1 : Nat) : Int) := by clear e5; rw [w64 (by omega) (by omega)]; omega
    have e7 : (rootsT l).getD ((rootsT l).length - 1) 0 = (((leafT l).length - 1 : Nat) : Int) := by
      unfold rootsT
      rw [hpre]
      simp [List.getD_eq_getElem?_getD]
    refine Ev.step (fun k => by simp only [laws_FnIndex.l1]; rw [if_neg c0, if_pos c1, e5, if_pos c2, if_pos c3, rdD, e6, e7]) ?_
    exact evSome (by simp)
  | succ d ih =>
    intro j hj1 hj
    have hjl : j < (rootsT l).length := by omega
    have c0 : (j : Int) < ((rootsT l).length : Int) := by omega
    have c1 : (0 : Int) ≤ (j : Int) := by omega
    have c2 : (0 : Int) ≤ ((j - 1 : Nat) : Int) := by omega
    have c3 : ((j - 1 : Nat) : Int) < ((rootsT l).length : Int) := by omega
    have c4 : ¬ ((rootsT l).getD j 0 ≤ (rootsT l).getD (j - 1) 0) := by
      have := (List.pairwise_iff_getElem.1 hup) (j - 1) j (by show j - 1 < (rootsT l).length; omega) hjl (by omega)
      rw [List.getD_eq_getElem?_getD, List.getD_eq_getElem?_getD, List.getElem?_eq_getElem hjl, List.getElem?_eq_getElem (show j - 1 < (rootsT l).length by omega)]
      simp only [Option.getD_some]
      unfold rootsT
      omega
    have e4 : wrap64 ((j : Int) + 1) = ((j + 1 : Nat) : Int) := by clear c4; rw [w64 (by omega) (by omega)]; rfl
    have e5 : wrap64 ((j : Int) - 1) = ((j - 1 : Nat) : Int) := by clear c4 e4; rw [w64 (by omega) (by omega)]; omega
    refine Ev.step (fun k => by simp only [laws_FnIndex.l1]; rw [if_pos c0, if_pos c1, e5, if_pos c2, if_pos c3, rdD, rdD, if_neg c4, e4]) ?_
    exact ih (j + 1) (by omega) (by omega)
theorem index_l0 (l : List S65) (hl : l.length ≤ 1048576) (h : treeP (lab l) (dep l) l.length) (d : Nat) : ∀ j : Nat, j + d = l.length → Ev (fun k => laws_FnIndex.l0 k l (postT l) (ranksT l) (leafT l) (rootsT l) j) true := by
  have hn := postT_n l h
  have hrl := ranksT_len l
  have hll := leafT_len l
  have h1n := h.1
  induction d with
  | zero =>
    intro j hj
    have c0 : ¬ ((j : Int) < (l.length : Int)) := by omega
    refine Ev.step (fun k => by simp only [laws_FnIndex.l0]; rw [if_neg c0]) ?_
    obtain ⟨pre, hpre⟩ := Y.rootGo_last (leafT l) (leafT l).length 0 (by omega) (by omega)
    have hpos : 1 ≤ (rootsT l).length := by unfold rootsT; rw [hpre]; simp
    exact index_l1 l hl h ((rootsT l).length - 1) 1 (Nat.le_refl _) (by omega)
  | succ d ih =>
    intro j hj
    have hjl : j < l.length := by omega
    have hr := rnk_range h hjl
    have hend := endI_le (dep l) l.length j hjl
    have hat : atB (lab l) (dep l) l.length (j : Int) = true := atB_iff.2 ⟨h, by omega, by omega⟩
    have hp := post_get l h j hjl
    have hf := leaf_get l h j hjl
    have hg := ranksT_get l h j hjl
    have hu : rnk (dep l) l.length j = ((endI (dep l) l.length j : Nat) : Int) - 1 - dep l j := rfl
    generalize rnk (dep l) l.length j = r at hr hp hf hg hu
    obtain ⟨m, rfl⟩ := Int.eq_ofNat_of_zero_le hr.1
    rw [Int.toNat_natCast] at hp hf
    have c0 : (j : Int) < (l.length : Int) := by omega
    have c1 : (0 : Int) ≤ (j : Int) := by omega
    have c2 : (j : Int) < ((ranksT l).length : Int) := by omega
    have c3 : ¬ ((m : Int) < 0) := by omega
    have c4 : ¬ ((m : Int) ≥ (l.length : Int)) := by omega
    have c5 : (0 : Int) ≤ (m : Int) := by omega
    have c6 : (m : Int) < ((postT l).length : Int) := by omega
    have c7 : (m : Int) < ((leafT l).length : Int) := by omega
    have hdr := dep_range h hjl
    have e5 : wrap64 ((m : Int) - ((j : Int) - dep l j)) = (m : Int) - ((j : Int) - dep l j) := w64 (by omega) (by omega)
    have e6 : wrap64 ((m : Int) - ((j : Int) - dep l j) + 1) = ((endI (dep l) l.length j : Nat) : Int) - (j : Int) := by clear e5; rw [w64 (by omega) (by omega)]; omega
    have e7 : wrap64 (((endI (dep l) l.length j : Nat) : Int) - (j : Int)) = ((endI (dep l) l.length j : Nat) : Int) - (j : Int) := by clear e5 e6; exact w64 (by omega) (by omega)
    have e4 : wrap64 ((j : Int) + 1) = ((j + 1 : Nat) : Int) := by clear e5 e6 e7; rw [w64 (by omega) (by omega)]; rfl
    refine Ev.step (fun k => by simp only [laws_FnIndex.l0]; rw [if_pos c0, if_pos c1, if_pos c2, rdD, hg, if_neg c3, if_neg c4, if_pos c5, if_pos c6, rdD, hp, if_pos rfl, if_pos c7, rdD, hf, e5, e6]) ?_
    refine Ev.bind (spec_EndOf_ev l hl _) ?_
    simp only [if_pos hat, Int.toNat_natCast, e7, if_true, e4]
    exact ih (j + 1) (by omega)
theorem drawPost_ok (c : List Int) (hc : c.length ≤ 1048576) : ∃ l, Ev (fun k => spec_DrawPostOrder.f k c) l ∧ l.length ≤ 600 := by
  obtain ⟨h, hn⟩ := new_ok c hc
  obtain ⟨l, i', h', hl, hll, hi'⟩ := l3Any_ok c hc 0 h (by omega) 12 (by omega)
  refine ⟨l, ?_, hll⟩
  unfold spec_DrawPostOrder.f
  exact Ev.bind hn (Ev.bind hl (Ev.now _))
theorem law : laws_FnIndex.Pure := by
  intro c hc1 hc2 _
  refine Ev.rounds ?_
  unfold laws_FnIndex.f
  simp only [big_eq, Option.bind_some, decide_eq_true_eq]
  by_cases hbig : (c.length : Int) > 1048576
  · simp only [if_pos hbig]; exact Ev.now _
  · simp only [if_neg hbig]
    obtain ⟨l, hd, hl⟩ := drawPost_ok c (by omega)
    have hl' : l.length ≤ 1048576 := by omega
    refine Ev.bind hd (Ev.bind (impl_PostOrder_ev l hl') (Ev.bind (impl_RankOf_ev l hl') (Ev.bind (impl_LeftLeaf_ev l hl') (Ev.bind (impl_KeyRoots_ev l hl') (Ev.bind (spec_TreeOk_ev l hl') ?_)))))
    by_cases ht : treeB (lab l) (dep l) l.length = true
    · have h := treeB_iff.1 ht
      have hn := postT_n l h
      have hrl := ranksT_len l
      have hll := leafT_len l
      have c1 : ((postT l).length : Int) = (l.length : Int) := by omega
      have c2 : ((ranksT l).length : Int) = (l.length : Int) := by omega
      have c3 : ((leafT l).length : Int) = (l.length : Int) := by omega
      simp only [if_pos ht, if_pos c1, if_pos c2, if_pos c3]
      refine Ev.bind (impl_LeavesOf_ev l hl') ?_
      rw [roots_count l h, bne_self_eq_false]
      refine Ev.step (fun k => by rw [laws_FnIndex.j0]) ?_
      simp only [Bool.false_eq_true, if_false]
      exact index_l0 l hl' h l.length 0 (by omega)
    · have e : postT l = [] := postT_no l (fun c => ht (treeB_iff.2 c))
      have e1 : ranksT l = [] := by have := ranksT_len l; rw [e] at this; exact List.eq_nil_of_length_eq_zero this
      have e2 : leafT l = [] := by unfold leafT; rw [e]; rfl
      have e3 : rootsT l = [] := by unfold rootsT; rw [e2]; rfl
      simp only [if_neg ht, e, e1, e2, e3]
      have z : wrap64 0 = 0 := w64 (by omega) (by omega)
      refine evSome ?_
      simp only [List.length_nil, Int.natCast_zero, Int.add_zero, z]
      rfl

end Go.Proofs.Ytbdjconojnjgdaa.PureFnIndex
namespace Go.Proofs.Ytbdjconojnjgdaa.Pure
open Go.RowKit Go.Proofs.Ytbdjconojnjgdaa.HFnIndex
theorem FnIndex : laws_FnIndex.Pure := Go.Proofs.Ytbdjconojnjgdaa.PureFnIndex.law
end Go.Proofs.Ytbdjconojnjgdaa.Pure
