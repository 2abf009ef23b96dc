/- For every code: of two nodes of the tree drawn from it exactly one holds: they are one, one is under the other, or one is to the left of the other; and the parent is what it should be. Condition: none but the model's own bound on a slice's size. -/
import Derived.Test.YteflhablmeelbaaHFnKinx7
import Derived.Test.YteflhablmeelbaaM
import Derived.Test.YteflhablmeelbaaT
import Derived.Test.YteflhablmeelbaaMB
import Derived.Test.YteflhablmeelbaaTB
namespace Go.Proofs.Yteflhablmeelbaa.PureFnKin
open Go.RowKit Go.Proofs.Yteflhablmeelbaa.HFnKin Go.Proofs.YteflhablmeelbaaW.PrintWords Go.Proofs.YteflhablmeelbaaW.PrintLast Go.Proofs.YteflhablmeelbaaW.PrintMore Go.Proofs.Yteflhablmeelbaa.M Go.Proofs.Yteflhablmeelbaa.T
set_option linter.unusedVariables false
set_option linter.unusedSimpArgs false

abbrev lab (l : List S64) (i : Nat) : Int := (l.getD i z64).f0
abbrev dep (l : List S64) (i : Nat) : Int := (l.getD i z64).f1
theorem rdN (l : List S64) (i : Nat) : rd_T64 l (i : Int) = l.getD i z64 := by unfold rd_T64; simp
def subGo (l : List S64) (v : Int) : Nat → Nat → List S64
  | 0, _ => []
  | d + 1, j => ⟨lab l j, dep l j - v⟩ :: subGo l v d (j + 1)
theorem subGo_len (l : List S64) (v : Int) (d : Nat) : ∀ j, (subGo l v d j).length = d := by
  induction d with
  | zero => intro j; rfl
  | succ d ih => intro j; simp [subGo, ih]
def subT (l : List S64) (a : Int) : List S64 := if atB (lab l) (dep l) l.length a = true then subGo l (dep l a.toNat) (endI (dep l) l.length a.toNat - a.toNat) a.toNat else []
theorem subT_small (l : List S64) (a : Int) (hl : l.length ≤ 1048576) : (subT l a).length ≤ 1048576 := by
  unfold subT
  by_cases h : atB (lab l) (dep l) l.length a = true
  · obtain ⟨i, rfl, hi, _⟩ := atB_nat h
    rw [if_pos h, subGo_len]
    have := endI_le (dep l) l.length i hi
    simp only [Int.toNat_natCast]; omega
  · rw [if_neg h]; simp
/-- Which child of its parent a node is. -/
def rankT (l : List S64) (a : Int) : Int := if atB (lab l) (dep l) l.length a = true ∧ 0 ≤ parI (dep l) a.toNat then idxGo a (kidsI (dep l) l.length (parI (dep l) a.toNat).toNat) 0 else -1
theorem rankT_yes (l : List S64) (a : Int) (h : atB (lab l) (dep l) l.length a = true) (h0 : 0 ≤ parI (dep l) a.toNat) : rankT l a = idxGo a (kidsI (dep l) l.length (parI (dep l) a.toNat).toNat) 0 := by unfold rankT; rw [if_pos ⟨h, h0⟩]
theorem rankT_no (l : List S64) (a : Int) (h : ¬ (atB (lab l) (dep l) l.length a = true ∧ 0 ≤ parI (dep l) a.toNat)) : rankT l a = -1 := by unfold rankT; rw [if_neg h]
theorem par_at (l : List S64) (a : Int) (h : atB (lab l) (dep l) l.length a = true) (h0 : 0 ≤ parI (dep l) a.toNat) : atB (lab l) (dep l) l.length (parI (dep l) a.toNat) = true := by
  obtain ⟨i, rfl, hi, ht⟩ := atB_nat h
  have := parGo_range (dep l) (dep l i) i
  simp only [Int.toNat_natCast, parI] at h0 ⊢
  exact atB_iff.2 ⟨ht, h0, by omega⟩
theorem kids_small (l : List S64) (i : Nat) (hi : i < l.length) (hl : l.length ≤ 1048576) : (kidsI (dep l) l.length i).length ≤ 1048576 := by
  have := kidGo_len (dep l) (dep l i + 1) (endI (dep l) l.length i - (i + 1)) (i + 1)
  have := endI_le (dep l) l.length i hi
  unfold kidsI; omega
theorem kidsT_small (l : List S64) (a : Int) (hl : l.length ≤ 1048576) : (if atB (lab l) (dep l) l.length a = true then kidsI (dep l) l.length a.toNat else []).length ≤ 1048576 := by
  by_cases h : atB (lab l) (dep l) l.length a = true
  · obtain ⟨i, rfl, hi, _⟩ := atB_nat h
    rw [if_pos h]
    have := kidGo_len (dep l) (dep l i + 1) (endI (dep l) l.length i - (i + 1)) (i + 1)
    have := endI_le (dep l) l.length i hi
    simp only [Int.toNat_natCast]
    unfold kidsI; omega
  · rw [if_neg h]; simp
/-- Is node b under node a? -/
def underT (l : List S64) (a b : Int) : Bool := atB (lab l) (dep l) l.length a && (atB (lab l) (dep l) l.length b && decide (a < b ∧ b < ((endI (dep l) l.length a.toNat : Nat) : Int)))
/-- Does node b follow node a, and isn't under it? -/
def leftT (l : List S64) (a b : Int) : Bool := atB (lab l) (dep l) l.length a && (atB (lab l) (dep l) l.length b && decide (b ≥ ((endI (dep l) l.length a.toNat : Nat) : Int)))
def heightT (l : List S64) : Int := if treeB (lab l) (dep l) l.length = true then highGo (dep l) l.length 0 0 else 0
def leavesT (l : List S64) : Int := if treeB (lab l) (dep l) l.length = true then leafGo (dep l) l.length l.length 0 0 else 0
def sameGo (a b : List S64) : Nat → Nat → Bool
  | 0, _ => true
  | d + 1, j => if (!((a.getD j z64).f0 == (b.getD j z64).f0) || (!((a.getD j z64).f1 == (b.getD j z64).f1))) = true then false else sameGo a b d (j + 1)
def sameT (a b : List S64) : Bool := if a.length = b.length then sameGo a b a.length 0 else false
def putGo (l : List S64) : Nat → Nat → ByteArray → ByteArray
  | 0, _, s => s
  | d + 1, j, s => putGo l d (j + 1) (s ++ (varS (lab l j) ++ varS (dep l j)))
def putT (l : List S64) : ByteArray := if treeB (lab l) (dep l) l.length = true then putGo l l.length 0 (varS l.length) else ⟨#[]⟩
/-- A node of depth q can stand behind these. -/
def shapeP (acc : List S64) (i : Nat) (q : Int) : Prop := (i = 0 → q = 0) ∧ (0 < i → 1 ≤ q ∧ q ≤ dep acc (i - 1) + 1)
instance (acc : List S64) (i : Nat) (q : Int) : Decidable (shapeP acc i q) := by unfold shapeP; infer_instance
/-- The nodes at place a on, d of them still to come, i of them behind. -/
def getGo (s : ByteArray) : Nat → Nat → Nat → List S64 → List S64 × Int
  | 0, _, a, acc => if a = s.size then (acc, 0) else ([], 6)
  | d + 1, i, a, acc =>
    let r := readVar (s.extract a s.size)
    if r.2 = 0 then ([], 1)
    else if ¬ (0 ≤ r.1 ∧ r.1 ≤ 5) then ([], 3)
    else
      let q := readVar (s.extract (a + r.2.toNat) s.size)
      if q.2 = 0 then ([], 1)
      else if q.1 > 12 then ([], 4)
      else if ¬ shapeP acc i q.1 then ([], 5)
      else getGo s d (i + 1) (a + r.2.toNat + q.2.toNat) (acc ++ [⟨r.1, q.1⟩])
def getT (s : ByteArray) : List S64 × Int :=
  let r := readVar s
  if r.2 = 0 then ([], 1) else if ¬ (1 ≤ r.1 ∧ r.1 ≤ 24) then ([], 2) else getGo s r.1.toNat 0 r.2.toNat []
theorem getGo_len (s : ByteArray) (d : Nat) : ∀ (i a : Nat) (acc : List S64), (getGo s d i a acc).1.length ≤ acc.length + d := by
  induction d with
  | zero => intro i a acc; simp only [getGo]; split <;> simp
  | succ d ih =>
    intro i a acc
    simp only [getGo]
    split
    · simp
    split
    · simp
    split
    · simp
    split
    · simp
    split
    · simp
    have := ih (i + 1) (a + (readVar (s.extract a s.size)).2.toNat + (readVar (s.extract (a + (readVar (s.extract a s.size)).2.toNat) s.size)).2.toNat) (acc ++ [⟨(readVar (s.extract a s.size)).1, (readVar (s.extract (a + (readVar (s.extract a s.size)).2.toNat) s.size)).1⟩])
    simp at this ⊢
    omega
theorem getT_small (s : ByteArray) : (getT s).1.length ≤ 1048576 := by
  unfold getT
  simp only
  split
  · simp
  split
  · simp
  rename_i h
  have := getGo_len s (readVar s).1.toNat 0 (readVar s).2.toNat []
  simp at this
  omega

/-! impl_endOf -/
theorem impl_endOf_l0 (l : List S64) (hl : l.length ≤ 1048576) (i : Nat) (hi : i < l.length) (d : Nat) : ∀ j : Nat, j + d = l.length → Ev (fun k => impl_endOf.l0 k l i j) ((endGo (dep l) (dep l i) d j : Nat) : Int) := by
  induction d with
  | zero =>
    intro j hj
    exact Ev.step (f := fun _ => some ((j : Nat) : Int)) (fun k => by simp only [impl_endOf.l0]; rw [if_neg (by omega)]) (Ev.now _)
  | succ d ih =>
    intro j hj
    have c1 : (j : Int) < (l.length : Int) := by omega
    have c2 : (0 : Int) ≤ (j : Int) := by omega
    have c3 : (0 : Int) ≤ (i : Int) := by omega
    have c4 : (i : Int) < (l.length : Int) := by omega
    have e4 : wrap64 ((j : Int) + 1) = ((j + 1 : Nat) : Int) := by rw [w64 (by omega) (by omega)]; rfl
    refine Ev.step (fun k => by simp only [impl_endOf.l0]; rw [if_pos c1, if_pos c2, if_pos c3, if_pos c4, e4, rdN, rdN]) ?_
    simp only [endGo]
    by_cases h : dep l j > dep l i
    · simp only [if_pos h]; exact ih (j + 1) (by omega)
    · simp only [if_neg h]; exact Ev.now _

theorem impl_endOf_ev (l : List S64) (hl : l.length ≤ 1048576) (i : Nat) (hi : i < l.length) : Ev (fun k => impl_endOf.f k l i) ((endI (dep l) l.length i : Nat) : Int) := by
  unfold impl_endOf.f
  have e4 : wrap64 ((i : Int) + 1) = ((i + 1 : Nat) : Int) := by rw [w64 (by omega) (by omega)]; rfl
  simp only [e4]
  exact impl_endOf_l0 l hl i hi (l.length - (i + 1)) (i + 1) (by omega)

/-! impl_within -/
theorem impl_within_eq (a b c : Int) : impl_within.f a b c = some (decide (b ≤ a ∧ a ≤ c)) := by
  unfold impl_within.f
  by_cases h : b ≤ a
  · rw [if_pos h]; simp [h]
  · rw [if_neg h]; simp [h]

/-! impl_LabelOk -/
theorem impl_LabelOk_eq (a : Int) : impl_LabelOk.f a = some (decide (0 ≤ a ∧ a ≤ 5)) := by
  unfold impl_LabelOk.f; simp only [impl_within_eq, Option.bind_some]

/-! impl_depthOk -/
theorem impl_depthOk_eq (l : List S64) (i : Nat) (hi : i < l.length) (hl : l.length ≤ 1048576) (hp : 0 < i → -1 ≤ dep l (i - 1) ∧ dep l (i - 1) ≤ 12) :
    impl_depthOk.f l (i : Int) = some (decide ((i = 0 → dep l i = 0) ∧ (0 < i → 1 ≤ dep l i ∧ dep l i ≤ dep l (i - 1) + 1))) := by
  unfold impl_depthOk.f
  by_cases h0 : i = 0
  · subst h0
    rw [if_pos (show ((0 : Nat) : Int) = 0 by rfl), if_pos (by omega)]
    have : rd_T64 l 0 = l.getD 0 z64 := rdN l 0
    rw [this]
    congr 1
    by_cases hz : dep l 0 = 0
    · rw [decide_eq_true ⟨fun _ => hz, fun h => by omega⟩]; show (dep l 0 == 0) = true; rw [hz]; rfl
    · rw [decide_eq_false (fun h => hz (h.1 rfl))]; show (dep l 0 == 0) = false; exact beq_eq_false_iff_ne.mpr hz
  · have hp := hp (by omega)
    have c3 : ¬ ((i : Int) = 0) := by omega
    have c4 : (0 : Int) ≤ (i : Int) := by omega
    have c5 : (i : Int) < (l.length : Int) := by omega
    have c6 : (0 : Int) ≤ ((i - 1 : Nat) : Int) := by omega
    have c7 : ((i - 1 : Nat) : Int) < (l.length : Int) := by omega
    have e3 : wrap64 ((i : Int) - 1) = ((i - 1 : Nat) : Int) := by rw [w64 (by omega) (by omega)]; omega
    rw [if_neg c3, if_pos c4, if_pos c5, e3, if_pos c6, if_pos c7, rdN, rdN]
    have e5 : wrap64 (dep l (i - 1) + 1) = dep l (i - 1) + 1 := w64 (by omega) (by omega)
    rw [e5, impl_within_eq]
    simp only [Option.bind_some]
    congr 1
    by_cases hz : 1 ≤ dep l i ∧ dep l i ≤ dep l (i - 1) + 1
    · rw [decide_eq_true hz, decide_eq_true ⟨fun h => absurd h h0, fun _ => hz⟩]
    · rw [decide_eq_false hz, decide_eq_false (fun h => hz (h.2 (by omega)))]

/-! impl_TreeOk -/
theorem impl_TreeOk_l0 (l : List S64) (hl : l.length ≤ 1048576) (hlen : 1 ≤ l.length ∧ l.length ≤ 24) (d : Nat) : ∀ i : Nat, i + d = l.length → (∀ j, j < i → nodeOk (lab l) (dep l) j) → Ev (fun k => impl_TreeOk.l0 k l l l.length i) (treeB (lab l) (dep l) l.length) := by
  induction d with
  | zero =>
    intro i hi hall
    refine Ev.step (fun k => by simp only [impl_TreeOk.l0]; rw [if_neg (by omega)]) ?_
    refine evSome ?_
    have e : i = l.length := by omega
    rw [treeB_all (by rw [← e]; exact hall), decide_eq_true hlen]
  | succ d ih =>
    intro i hi hall
    have hil : i < l.length := by omega
    have c1 : (i : Int) < (l.length : Int) := by omega
    have c2 : (0 : Int) ≤ (i : Int) := by omega
    refine Ev.step (fun k => by simp only [impl_TreeOk.l0]; rw [if_pos c1, if_pos c2, if_pos c1]) ?_
    have hd := impl_depthOk_eq l i hil hl (fun h0 => by
      have hp := hall (i - 1) (by omega)
      have := hp.2.2.1
      exact ⟨by omega, hp.2.2.2.1⟩)
    have e4 : wrap64 ((i : Int) + 1) = ((i + 1 : Nat) : Int) := by rw [w64 (by omega) (by omega)]; rfl
    simp only [impl_LabelOk_eq, impl_within_eq, hd, Option.bind_some, rdN, decide_eq_true_eq, e4]
    by_cases h1 : 0 ≤ lab l i ∧ lab l i ≤ 5
    · simp only [if_pos h1]
      by_cases h2 : 0 ≤ dep l i ∧ dep l i ≤ 12
      · simp only [if_pos h2]
        by_cases h3 : (i = 0 → dep l i = 0) ∧ (0 < i → 1 ≤ dep l i ∧ dep l i ≤ dep l (i - 1) + 1)
        · simp only [if_pos h3]
          refine ih (i + 1) (by omega) (fun j hj => ?_)
          by_cases hji : j < i
          · exact hall j hji
          · have : j = i := by omega
            subst this; exact ⟨h1.1, h1.2, h2.1, h2.2, h3.1, h3.2⟩
        · simp only [if_neg h3]
          exact evSome (treeB_no hil (fun h => h3 ⟨h.2.2.2.2.1, h.2.2.2.2.2⟩)).symm
      · simp only [if_neg h2]
        exact evSome (treeB_no hil (fun h => h2 ⟨h.2.2.1, h.2.2.2.1⟩)).symm
    · simp only [if_neg h1]
      exact evSome (treeB_no hil (fun h => h1 ⟨h.1, h.2.1⟩)).symm
theorem impl_TreeOk_ev (l : List S64) (hl : l.length ≤ 1048576) : Ev (fun k => impl_TreeOk.f k l) (treeB (lab l) (dep l) l.length) := by
  unfold impl_TreeOk.f
  simp only [impl_within_eq, Option.bind_some, decide_eq_true_eq]
  by_cases h : (1 : Int) ≤ (l.length : Int) ∧ (l.length : Int) ≤ 24
  · simp only [if_pos h]
    exact impl_TreeOk_l0 l hl (by omega) l.length 0 (by omega) (fun j hj => by omega)
  · simp only [if_neg h]
    exact evSome (treeB_len (by omega)).symm

/-! impl_hasNode -/
theorem impl_hasNode_ev (l : List S64) (hl : l.length ≤ 1048576) (a : Int) : Ev (fun k => impl_hasNode.f k l a) (atB (lab l) (dep l) l.length a) := by
  unfold impl_hasNode.f
  refine Ev.bind (impl_TreeOk_ev l hl) ?_
  have e : wrap64 ((l.length : Int) - 1) = (l.length : Int) - 1 := w64 (by omega) (by omega)
  simp only [impl_within_eq, Option.bind_some, e, atB]
  by_cases h : treeB (lab l) (dep l) l.length = true
  · simp only [h, if_true, Bool.true_and]; exact Ev.now _
  · simp only [Bool.eq_false_iff.mpr h, Bool.false_eq_true, if_false, Bool.false_and]; exact Ev.now _

/-! impl_KidsOf -/
theorem impl_KidsOf_l0 (l : List S64) (hl : l.length ≤ 1048576) (i : Nat) (hat : atB (lab l) (dep l) l.length i = true) (d : Nat) : ∀ (j : Nat) (acc : List Int), j + d = endI (dep l) l.length i → acc.length ≤ j → Ev (fun k => impl_KidsOf.l0 k l i acc j) (acc ++ kidGo (dep l) (dep l i + 1) d j) := by
  obtain ⟨i', hi', hi, ht⟩ := atB_nat hat
  have hii : i' = i := by omega
  rw [hii] at hi
  clear hi' hii
  have hel := endI_le (dep l) l.length i hi
  have hdr := dep_range ht hi
  have e5 : wrap64 (dep l i + 1) = dep l i + 1 := w64 (by omega) (by omega)
  induction d with
  | zero =>
    intro j acc hj ha
    refine Ev.step (fun k => by rw [impl_KidsOf.l0]) ?_
    refine Ev.bind (impl_endOf_ev l hl i hi) ?_
    have c0 : ¬ ((j : Int) < ((endI (dep l) l.length i : Nat) : Int)) := by omega
    simp only [if_neg c0, kidGo, List.append_nil]; exact Ev.now _
  | succ d ih =>
    intro j acc hj ha
    refine Ev.step (fun k => by rw [impl_KidsOf.l0]) ?_
    refine Ev.bind (impl_endOf_ev l hl i hi) ?_
    have c0 : ((j : Int) < ((endI (dep l) l.length i : Nat) : Int)) := by omega
    have c1 : (j : Int) < (l.length : Int) := by omega
    have c2 : (0 : Int) ≤ (j : Int) := by omega
    have c3 : (0 : Int) ≤ (i : Int) := by omega
    have c4 : (i : Int) < (l.length : Int) := by omega
    have e4 : wrap64 ((j : Int) + 1) = ((j + 1 : Nat) : Int) := by rw [w64 (by omega) (by omega)]; rfl
    simp only [if_pos c0, if_pos c2, if_pos c1, if_pos c3, if_pos c4, e4, rdN, e5, kidGo]
    by_cases h : dep l j = dep l i + 1
    · have hl1 : acc.length < 17592186044416 := by omega
      simp only [if_pos h, if_pos hl1]
      have := ih (j + 1) (acc ++ [(j : Int)]) (by omega) (by simp; omega)
      simpa only [List.append_assoc, List.cons_append, List.nil_append] using this
    · simp only [if_neg h]
      exact ih (j + 1) acc (by omega) (by omega)

theorem impl_KidsOf_ev (l : List S64) (hl : l.length ≤ 1048576) (a : Int) : Ev (fun k => impl_KidsOf.f k l a) (if atB (lab l) (dep l) l.length a = true then kidsI (dep l) l.length a.toNat else []) := by
  unfold impl_KidsOf.f
  simp only [Option.bind_some]
  refine Ev.bind (impl_hasNode_ev l hl a) ?_
  by_cases h : atB (lab l) (dep l) l.length a = true
  · obtain ⟨i, rfl, hi, _⟩ := atB_nat h
    have e4 : wrap64 ((i : Int) + 1) = ((i + 1 : Nat) : Int) := by rw [w64 (by omega) (by omega)]; rfl
    have hel := endI_le (dep l) l.length i hi
    simp only [if_pos h, e4, Int.toNat_natCast]
    have := impl_KidsOf_l0 l hl i h (endI (dep l) l.length i - (i + 1)) (i + 1) [] (by omega) (by simp)
    rw [List.nil_append] at this
    exact this
  · simp only [if_neg h]; exact Ev.now _

/-! impl_ParentOf -/
theorem impl_ParentOf_l0 (l : List S64) (hl : l.length ≤ 1048576) (i : Nat) (hi : i < l.length) : ∀ p : Nat, p ≤ i → Ev (fun k => impl_ParentOf.l0 k l i ((p : Int) - 1)) (parGo (dep l) (dep l i) p) := by
  intro p
  induction p with
  | zero =>
    intro _
    exact Ev.step (f := fun _ => some (-1)) (fun k => by simp only [impl_ParentOf.l0]; rw [if_neg (by omega)]; rfl) (Ev.now _)
  | succ p ih =>
    intro hp
    have e0 : ((p + 1 : Nat) : Int) - 1 = (p : Int) := by omega
    have c1 : (p : Int) ≥ 0 := by omega
    have c2 : (0 : Int) ≤ (p : Int) := by omega
    have c3 : (p : Int) < (l.length : Int) := by omega
    have c4 : (0 : Int) ≤ (i : Int) := by omega
    have c5 : (i : Int) < (l.length : Int) := by omega
    have e4 : wrap64 ((p : Int) - 1) = (p : Int) - 1 := w64 (by omega) (by omega)
    rw [e0]
    refine Ev.step (fun k => by simp only [impl_ParentOf.l0]; rw [if_pos c1, if_pos c2, if_pos c3, if_pos c4, if_pos c5, e4, rdN, rdN]) ?_
    simp only [parGo]
    by_cases h : dep l p ≥ dep l i
    · simp only [if_pos h]; exact ih (by omega)
    · simp only [if_neg h]; exact Ev.now _
theorem impl_ParentOf_ev (l : List S64) (hl : l.length ≤ 1048576) (a : Int) : Ev (fun k => impl_ParentOf.f k l a) (if atB (lab l) (dep l) l.length a = true then parI (dep l) a.toNat else -1) := by
  unfold impl_ParentOf.f
  refine Ev.bind (impl_hasNode_ev l hl a) ?_
  by_cases h : atB (lab l) (dep l) l.length a = true
  · obtain ⟨i, rfl, hi, _⟩ := atB_nat h
    have e4 : wrap64 ((i : Int) - 1) = (i : Int) - 1 := w64 (by omega) (by omega)
    simp only [if_pos h, e4, Int.toNat_natCast]
    exact impl_ParentOf_l0 l hl i hi i (Nat.le_refl _)
  · simp only [if_neg h]; exact Ev.now _

/-! slices_Index_int_int -/
theorem sIndex_l0 (x : Int) (xs : List Int) (hx : xs.length ≤ 1048576) (d : Nat) : ∀ j : Nat, j + d = xs.length → Ev (fun k => slices_Index_int_int.l0 k xs x xs.length j) (idxGo x (xs.drop j) j) := by
  induction d with
  | zero =>
    intro j hj
    rw [List.drop_of_length_le (by omega)]
    exact Ev.step (f := fun _ => some (-1)) (fun k => by simp only [slices_Index_int_int.l0]; rw [if_neg (by omega)]) (Ev.now _)
  | succ d ih =>
    intro j hj
    have hjl : j < xs.length := by omega
    have c1 : (j : Int) < (xs.length : Int) := by omega
    have c2 : (0 : Int) ≤ (j : Int) := by omega
    have e4 : wrap64 ((j : Int) + 1) = ((j + 1 : Nat) : Int) := by rw [w64 (by omega) (by omega)]; rfl
    have er : rd xs (j : Int) = xs[j] := by unfold rd; simp [List.getD_eq_getElem?_getD, List.getElem?_eq_getElem hjl]
    rw [List.drop_eq_getElem_cons hjl]
    refine Ev.step (fun k => by simp only [slices_Index_int_int.l0]; rw [if_pos c1, if_pos c2, if_pos c1, e4, er]) ?_
    simp only [idxGo]
    by_cases h : x = xs[j]
    · simp only [if_pos h]; exact Ev.now _
    · simp only [if_neg h]; exact ih (j + 1) (by omega)
theorem sIndex_ev (x : Int) (xs : List Int) (hx : xs.length ≤ 1048576) : Ev (fun k => slices_Index_int_int.f k xs x) (idxGo x xs 0) := by
  unfold slices_Index_int_int.f
  have := sIndex_l0 x xs hx _ 0 (Nat.zero_add _)
  simpa using this

/-! impl_KidRank -/
theorem impl_KidRank_ev (l : List S64) (hl : l.length ≤ 1048576) (a : Int) : Ev (fun k => impl_KidRank.f k l a) (rankT l a) := by
  unfold impl_KidRank.f
  refine Ev.bind (impl_ParentOf_ev l hl a) ?_
  by_cases h : atB (lab l) (dep l) l.length a = true
  · by_cases h0 : 0 ≤ parI (dep l) a.toNat
    · have hp := par_at l a h h0
      obtain ⟨i, hi', hi, ht⟩ := atB_nat hp
      rw [rankT_yes l a h h0]
      simp only [if_pos h]
      rw [hi'] at hp ⊢
      refine Ev.bind (impl_KidsOf_ev l hl _) ?_
      simp only [if_pos hp, Int.toNat_natCast]
      exact Ev.bind (sIndex_ev a _ (kids_small l i hi hl)) (Ev.now _)
    · rw [rankT_no l a (fun e => h0 e.2)]
      simp only [if_pos h]
      refine Ev.bind (impl_KidsOf_ev l hl _) ?_
      rw [if_neg (fun e => h0 (atB_iff.1 e).2.1)]
      exact Ev.bind (sIndex_ev a [] (by simp)) (Ev.now _)
  · rw [rankT_no l a (fun e => h e.1)]
    simp only [if_neg h]
    refine Ev.bind (impl_KidsOf_ev l hl _) ?_
    rw [if_neg (fun e => by have := (atB_iff.1 e).2.1; omega)]
    exact Ev.bind (sIndex_ev a [] (by simp)) (Ev.now _)

/-! laws_big -/
theorem big_eq (c : List Int) : laws_big.f c = some (decide ((c.length : Int) > 1048576)) := rfl

/-! spec_l1In -/
theorem spec_l1In_eq (a b c : Int) : spec_l1In.f a b c = some (decide (b ≤ a ∧ a ≤ c)) := by
  unfold spec_l1In.f
  by_cases h : b ≤ a
  · rw [if_pos h]; simp [h]
  · rw [if_neg h]; simp [h]

/-! spec_LabelOk -/
theorem spec_LabelOk_eq (a : Int) : spec_LabelOk.f a = some (decide (0 ≤ a ∧ a ≤ 5)) := by
  unfold spec_LabelOk.f; simp only [spec_l1In_eq, Option.bind_some]

/-! spec_TreeOk -/
theorem spec_TreeOk_l0 (l : List S64) (hl : l.length ≤ 1048576) (d : Nat) : ∀ i : Nat, i + d = l.length → (∀ j, j < i → nodeOk (lab l) (dep l) j) → Ev (fun k => spec_TreeOk.l0 k l i) (treeB (lab l) (dep l) l.length) := by
  induction d with
  | zero =>
    intro i hi hall
    refine Ev.step (fun k => by simp only [spec_TreeOk.l0]; rw [if_neg (by omega)]) ?_
    simp only [spec_l1In_eq, Option.bind_some]
    refine evSome ?_
    have e : i = l.length := by omega
    rw [treeB_all (by rw [← e]; exact hall)]
    congr 1; simp; omega
  | succ d ih =>
    intro i hi hall
    have hil : i < l.length := by omega
    have c1 : (i : Int) < (l.length : Int) := by omega
    have c2 : (0 : Int) ≤ (i : Int) := by omega
    refine Ev.step (fun k => by simp only [spec_TreeOk.l0]; rw [if_pos c1, if_pos c2]) ?_
    simp only [spec_LabelOk_eq, spec_l1In_eq, Option.bind_some, rdN, decide_eq_true_eq]
    by_cases h1 : 0 ≤ lab l i ∧ lab l i ≤ 5
    · simp only [if_pos h1]
      by_cases h2 : 0 ≤ dep l i ∧ dep l i ≤ 12
      · simp only [if_pos h2]
        by_cases h0 : i = 0
        · subst h0
          by_cases hz : dep l 0 = 0
          · have hb : ((dep l 0 == 0) != (((0 : Nat) : Int) == 0)) = false := by rw [hz]; rfl
            have hn := ih 1 (by omega) (fun j hj => by
              have : j = 0 := by omega
              subst this; exact ⟨h1.1, h1.2, h2.1, h2.2, fun _ => hz, fun h => by omega⟩)
            have e4 : wrap64 (((0 : Nat) : Int) + 1) = ((1 : Nat) : Int) := by rw [w64 (by omega) (by omega)]; rfl
            simp only [hb, Bool.false_eq_true, if_false, e4, if_neg (show ¬ ((0 : Nat) : Int) > 0 by omega)]
            exact hn
          · have hb : ((dep l 0 == 0) != (((0 : Nat) : Int) == 0)) = true := by simp [hz]
            simp only [hb, if_true]
            refine evSome (treeB_no hil ?_).symm
            intro h; exact hz (h.2.2.2.2.1 rfl)
        · have hiz : ((i : Int) == 0) = false := by simp; omega
          by_cases hz : dep l i = 0
          · have hb : ((dep l i == 0) != ((i : Int) == 0)) = true := by rw [hiz, hz]; rfl
            simp only [hb, if_true]
            refine evSome (treeB_no hil ?_).symm
            intro h; have := h.2.2.2.2.2 (by omega); omega
          · have hb : ((dep l i == 0) != ((i : Int) == 0)) = false := by rw [hiz]; simp [hz]
            have hp := hall (i - 1) (by omega)
            have hpr : 0 ≤ dep l (i - 1) ∧ dep l (i - 1) ≤ 12 := ⟨hp.2.2.1, hp.2.2.2.1⟩
            have hn : (1 ≤ dep l i ∧ dep l i ≤ dep l (i - 1) + 1) → _ := fun hd => ih (i + 1) (by omega) (fun j hj => by
              by_cases hji : j < i
              · exact hall j hji
              · have : j = i := by omega
                subst this; exact ⟨h1.1, h1.2, h2.1, h2.2, fun h => by omega, fun _ => hd⟩)
            have e3 : wrap64 ((i : Int) - 1) = ((i - 1 : Nat) : Int) := by rw [w64 (by omega) (by omega)]; omega
            have e4 : wrap64 ((i : Int) + 1) = ((i + 1 : Nat) : Int) := by rw [w64 (by omega) (by omega)]; rfl
            have c5 : (0 : Int) ≤ ((i - 1 : Nat) : Int) := by omega
            have c6 : ((i - 1 : Nat) : Int) < (l.length : Int) := by omega
            have e5 : wrap64 (dep l (i - 1) + 1) = dep l (i - 1) + 1 := w64 (by omega) (by omega)
            simp only [hb, Bool.false_eq_true, if_false, e3, e4, if_pos (show (i : Int) > 0 by omega), if_pos c5, if_pos c6, rdN, e5]
            by_cases hd : dep l i > dep l (i - 1) + 1
            · simp only [if_pos hd]
              refine evSome (treeB_no hil ?_).symm
              intro h; have := (h.2.2.2.2.2 (by omega)).2; omega
            · simp only [if_neg hd]
              exact hn ⟨by omega, by omega⟩
      · simp only [if_neg h2]
        exact evSome (treeB_no hil (fun h => h2 ⟨h.2.2.1, h.2.2.2.1⟩)).symm
    · simp only [if_neg h1]
      exact evSome (treeB_no hil (fun h => h1 ⟨h.1, h.2.1⟩)).symm
theorem spec_TreeOk_ev (l : List S64) (hl : l.length ≤ 1048576) : Ev (fun k => spec_TreeOk.f k l) (treeB (lab l) (dep l) l.length) :=
  spec_TreeOk_l0 l hl l.length 0 (by omega) (fun j hj => by omega)

/-! spec_l1New -/
theorem new_l0 (c : List Int) (hc : c.length ≤ 1048576) (d : Nat) : ∀ (h : Int) (j : Nat), j + d = c.length → ∃ h', Ev (fun k => spec_l1New.l0 k c h j) (c, 0, h') := by
  induction d with
  | zero =>
    intro h j hj
    exact ⟨h, Ev.step (f := fun _ => some (c, 0, h)) (fun k => by rw [spec_l1New.l0, if_neg (by omega)]) (Ev.now _)⟩
  | succ d ih =>
    intro h j hj
    have c1 : (j : Int) < (c.length : Int) := by omega
    have c2 : (0 : Int) ≤ (j : Int) := by omega
    have e4 : wrap64 ((j : Int) + 1) = ((j + 1 : Nat) : Int) := by rw [w64 (by omega) (by omega)]; rfl
    by_cases g : (j : Int) < 4000
    · obtain ⟨h', a⟩ := ih (Go.bits .and .i64 (wrap64 ((wrap64 ((wrap64 (h * 131)) + (wrap64 (rd c j)))) + 7)) 1073741823) (j + 1) (by omega)
      exact ⟨h', Ev.step (fun k => by rw [spec_l1New.l0, if_pos c1, if_pos g, if_pos c2, e4]) a⟩
    · exact ⟨h, Ev.step (f := fun _ => some (c, 0, h)) (fun k => by rw [spec_l1New.l0, if_pos c1, if_neg g]) (Ev.now _)⟩
theorem new_ok (c : List Int) (hc : c.length ≤ 1048576) : ∃ h', Ev (fun k => spec_l1New.f k c) (c, 0, h') := new_l0 c hc c.length _ 0 (by omega)

/-! spec_l1Byte -/
theorem and255 (x : Int) : 0 ≤ Go.bits .and .i64 x 255 ∧ Go.bits .and .i64 x 255 ≤ 255 := by
  unfold Go.bits
  have h1 : (BitVec.ofInt 64 x &&& BitVec.ofInt 64 255).toNat ≤ 255 := by
    rw [BitVec.toNat_and]
    exact Nat.and_le_right
  have h2 : IntKind.i64.wrap ((BitVec.ofInt 64 x &&& BitVec.ofInt 64 255).toNat : Int) = ((BitVec.ofInt 64 x &&& BitVec.ofInt 64 255).toNat : Int) := wraps_i64 _ (by omega) (by omega)
  show 0 ≤ IntKind.i64.wrap ((BitVec.ofInt 64 x &&& BitVec.ofInt 64 255).toNat : Int) ∧ IntKind.i64.wrap ((BitVec.ofInt 64 x &&& BitVec.ofInt 64 255).toNat : Int) ≤ 255
  rw [h2]
  omega
theorem byte_ok (b : List Int) (hb : b.length ≤ 1048576) (i h : Int) (hi : 0 ≤ i ∧ i ≤ 1048576) : ∃ x i' h', spec_l1Byte.f b i h = some (x, i', h') ∧ (0 ≤ x ∧ x ≤ 255) ∧ (0 ≤ i' ∧ i' ≤ 1048576) := by
  unfold spec_l1Byte.f
  by_cases c : i < (b.length : Int)
  · rw [if_pos c, if_pos hi.1]
    refine ⟨_, _, _, rfl, and255 _, ?_⟩
    rw [w64 (by omega) (by omega)]; omega
  · rw [if_neg c]
    exact ⟨_, _, _, rfl, and255 _, hi⟩

/-! spec_l1Below -/
theorem below_ok (b : List Int) (hb : b.length ≤ 1048576) (i h : Int) (hi : 0 ≤ i ∧ i ≤ 1048576) (n : Int) : ∃ x i' h', spec_l1Below.f b i h n = some (x, i', h') ∧ (0 ≤ x ∧ (0 < n → x < n) ∧ (n ≤ 0 → x = 0)) ∧ (0 ≤ i' ∧ i' ≤ 1048576) := by
  unfold spec_l1Below.f
  by_cases c : n ≤ 0
  · rw [if_pos c]
    exact ⟨_, _, _, rfl, ⟨by omega, by omega, fun _ => rfl⟩, hi⟩
  · rw [if_neg c]
    by_cases c2 : n ≤ 256
    · rw [if_pos c2]
      obtain ⟨x, i1, h1, e1, hx, hi1⟩ := byte_ok b hb i h hi
      rw [e1]
      simp only [Option.bind_some]
      rw [if_neg (by omega)]
      refine ⟨_, _, _, rfl, ⟨?_, ?_, ?_⟩, hi1⟩
      · rw [Int.tmod_eq_emod_of_nonneg hx.1]; exact Int.emod_nonneg _ (by omega)
      · intro _; rw [Int.tmod_eq_emod_of_nonneg hx.1]; exact Int.emod_lt_of_pos _ (by omega)
      · intro g; omega
    · rw [if_neg c2]
      obtain ⟨x1, i1, h1, e1, hx1, hi1⟩ := byte_ok b hb i h hi
      rw [e1]
      simp only [Option.bind_some]
      obtain ⟨x2, i2, h2, e2, hx2, hi2⟩ := byte_ok b hb i1 h1 hi1
      rw [e2]
      simp only [Option.bind_some]
      obtain ⟨x3, i3, h3, e3, hx3, hi3⟩ := byte_ok b hb i2 h2 hi2
      rw [e3]
      simp only [Option.bind_some]
      obtain ⟨x4, i4, h4, e4, hx4, hi4⟩ := byte_ok b hb i3 h3 hi3
      rw [e4]
      simp only [Option.bind_some]
      rw [if_neg (by omega)]
      clear e1 e2 e3 e4
      have g1 : wrap64 (x1 * 16777216) = x1 * 16777216 := w64 (by omega) (by omega)
      have g2 : wrap64 (x2 * 65536) = x2 * 65536 := w64 (by omega) (by omega)
      have g3 : wrap64 (x3 * 256) = x3 * 256 := w64 (by omega) (by omega)
      rw [g1, g2, g3]
      clear g1 g2 g3
      have g4 : wrap64 (x1 * 16777216 + x2 * 65536) = x1 * 16777216 + x2 * 65536 := w64 (by omega) (by omega)
      rw [g4]
      clear g4
      have g5 : wrap64 (x1 * 16777216 + x2 * 65536 + x3 * 256) = x1 * 16777216 + x2 * 65536 + x3 * 256 := w64 (by omega) (by omega)
      rw [g5]
      clear g5
      have g6 : wrap64 (x1 * 16777216 + x2 * 65536 + x3 * 256 + x4) = x1 * 16777216 + x2 * 65536 + x3 * 256 + x4 := w64 (by omega) (by omega)
      rw [g6]
      clear g6
      have g7 : 0 ≤ x1 * 16777216 + x2 * 65536 + x3 * 256 + x4 := by omega
      refine ⟨_, _, _, rfl, ⟨?_, ?_, ?_⟩, hi4⟩
      · rw [Int.tmod_eq_emod_of_nonneg g7]; exact Int.emod_nonneg _ (by omega)
      · intro _; rw [Int.tmod_eq_emod_of_nonneg g7]; exact Int.emod_lt_of_pos _ (by omega)
      · intro g; omega

/-! spec_l1PickInt -/
theorem pickInt_ok (b : List Int) (hb : b.length ≤ 1048576) (i h : Int) (hi : 0 ≤ i ∧ i ≤ 1048576) (l : List Int) (hl : 0 < l.length) : ∃ x i' h', spec_l1PickInt.f b i h l = some (x, i', h') ∧ x ∈ l ∧ (0 ≤ i' ∧ i' ≤ 1048576) := by
  obtain ⟨x, i1, h1, e1, hx, hi1⟩ := below_ok b hb i h hi (l.length : Int)
  unfold spec_l1PickInt.f
  rw [e1]
  simp only [Option.bind_some]
  have hlt := hx.2.1 (by omega)
  rw [if_pos hx.1, if_pos hlt]
  refine ⟨_, _, _, rfl, ?_, hi1⟩
  unfold rd
  have hn : x.toNat < l.length := by omega
  rw [List.getD_eq_getElem?_getD, List.getElem?_eq_getElem hn]
  exact List.getElem_mem hn

/-! spec_l2Any -/
theorem any_ok (b : List Int) (hb : b.length ≤ 1048576) (i h : Int) (hi : 0 ≤ i ∧ i ≤ 1048576) : ∃ x i' h', spec_l2Any.f b i h = some (x, i', h') ∧ (-1 ≤ x ∧ x ≤ 6) ∧ (0 ≤ i' ∧ i' ≤ 1048576) := by
  obtain ⟨x, i1, h1, e1, hx, hi1⟩ := pickInt_ok b hb i h hi [0, 1, 2, 3, 5, 6, -1] (by decide)
  unfold spec_l2Any.f
  rw [e1]
  refine ⟨_, _, _, rfl, ?_, hi1⟩
  simp only [List.mem_cons, List.not_mem_nil, or_false] at hx
  omega

/-! spec_l1Once -/
theorem once_ok (b : List Int) (hb : b.length ≤ 1048576) (i h : Int) (hi : 0 ≤ i ∧ i ≤ 1048576) (n : Int) : ∃ x i' h', spec_l1Once.f b i h n = some (x, i', h') ∧ (0 ≤ i' ∧ i' ≤ 1048576) := by
  obtain ⟨x, i1, h1, e1, _, hi1⟩ := below_ok b hb i h hi n
  unfold spec_l1Once.f
  rw [e1]
  exact ⟨_, _, _, rfl, hi1⟩

/-! spec_l2Label -/
theorem label_ok (b : List Int) (hb : b.length ≤ 1048576) (i h : Int) (hi : 0 ≤ i ∧ i ≤ 1048576) : ∃ x i' h', spec_l2Label.f b i h = some (x, i', h') ∧ (0 ≤ x ∧ x < 4) ∧ (0 ≤ i' ∧ i' ≤ 1048576) := by
  obtain ⟨x, i1, h1, e1, hx, hi1⟩ := below_ok b hb i h hi 4
  unfold spec_l2Label.f
  rw [e1]
  exact ⟨_, _, _, rfl, ⟨hx.1, hx.2.1 (by omega)⟩, hi1⟩

/-! spec_l3Tree -/
theorem tree_l0 (b : List Int) (hb : b.length ≤ 1048576) (d : Nat) : ∀ (l : List S64) (i h : Int), 0 < l.length → l.length + d ≤ 1000 → (0 ≤ i ∧ i ≤ 1048576) →
    ∃ l' i' h', Ev (fun k => spec_l3Tree.l0 k l d b i h) (l', i', h') ∧ l'.length = l.length + d ∧ (0 ≤ i' ∧ i' ≤ 1048576) := by
  induction d with
  | zero =>
    intro l i h hl hd hi
    exact ⟨l, i, h, Ev.step (f := fun _ => some (l, i, h)) (fun k => by rw [spec_l3Tree.l0, if_neg (by decide)]) (Ev.now _), rfl, hi⟩
  | succ d ih =>
    intro l i h hl hd hi
    have c1 : ((d + 1 : Nat) : Int) > 0 := by omega
    have e1 : wrap64 ((l.length : Int) - 1) = (l.length : Int) - 1 := w64 (by omega) (by omega)
    have c2 : (0 : Int) ≤ (l.length : Int) - 1 := by omega
    have c3 : (l.length : Int) - 1 < (l.length : Int) := by omega
    have e2 : wrap64 (((d + 1 : Nat) : Int) - 1) = (d : Int) := by rw [w64 (by omega) (by omega)]; omega
    have c4 : l.length < 8796093022208 := by omega
    obtain ⟨x1, i1, h1, f1, hx1, hi1⟩ := below_ok b hb i h hi (wrap64 (((rd_T64 l ((l.length : Int) - 1)).f1) + 1))
    obtain ⟨x2, i2, h2, f2, hi2⟩ := once_ok b hb i1 h1 hi1 2
    obtain ⟨x3, i3, h3, f3, hx3, hi3⟩ := label_ok b hb i2 h2 hi2
    have go : ∀ x : S64, ∃ l' i' h', Ev (fun k => spec_l3Tree.l0 k (l ++ [x]) d b i3 h3) (l', i', h') ∧ l'.length = l.length + (d + 1) ∧ (0 ≤ i' ∧ i' ≤ 1048576) := by
      intro x
      obtain ⟨l', i', h', a1, a2, a3⟩ := ih (l ++ [x]) i3 h3 (by simp) (by simp; omega) hi3
      exact ⟨l', i', h', a1, by rw [a2]; simp; omega, a3⟩
    have key : ∃ x : S64, ∀ k, spec_l3Tree.l0 (k + 1) l ((d + 1 : Nat) : Int) b i h = spec_l3Tree.l0 k (l ++ [x]) d b i3 h3 := by
      cases x2 with
      | true =>
        by_cases g : (wrap64 (((rd_T64 l ((l.length : Int) - 1)).f1) + 1)) > 12
        · exact ⟨⟨x3, 1⟩, fun k => by rw [spec_l3Tree.l0, if_pos c1, e1, if_pos c2, if_pos c3, f1]; simp only [Option.bind_some]; rw [f2]; simp only [Option.bind_some, if_true]; rw [if_pos g, f3]; simp only [Option.bind_some]; rw [if_pos c4, e2]⟩
        · exact ⟨⟨x3, wrap64 (((rd_T64 l ((l.length : Int) - 1)).f1) + 1)⟩, fun k => by rw [spec_l3Tree.l0, if_pos c1, e1, if_pos c2, if_pos c3, f1]; simp only [Option.bind_some]; rw [f2]; simp only [Option.bind_some, if_true]; rw [if_neg g, f3]; simp only [Option.bind_some]; rw [if_pos c4, e2]⟩
      | false =>
        by_cases g : (wrap64 (1 + x1)) > 12
        · exact ⟨⟨x3, 1⟩, fun k => by rw [spec_l3Tree.l0, if_pos c1, e1, if_pos c2, if_pos c3, f1]; simp only [Option.bind_some]; rw [f2]; simp only [Option.bind_some, Bool.false_eq_true, if_false]; rw [if_pos g, f3]; simp only [Option.bind_some]; rw [if_pos c4, e2]⟩
        · exact ⟨⟨x3, wrap64 (1 + x1)⟩, fun k => by rw [spec_l3Tree.l0, if_pos c1, e1, if_pos c2, if_pos c3, f1]; simp only [Option.bind_some]; rw [f2]; simp only [Option.bind_some, Bool.false_eq_true, if_false]; rw [if_neg g, f3]; simp only [Option.bind_some]; rw [if_pos c4, e2]⟩
    obtain ⟨x, hx⟩ := key
    obtain ⟨l', i', h', a1, a2, a3⟩ := go x
    exact ⟨l', i', h', Ev.step hx a1, a2, a3⟩
theorem tree_ok (b : List Int) (hb : b.length ≤ 1048576) (i h : Int) (hi : 0 ≤ i ∧ i ≤ 1048576) (n : Nat) (hn : n ≤ 500) : ∃ l i' h', Ev (fun k => spec_l3Tree.f k b i h n) (l, i', h') ∧ (0 < l.length ∧ l.length ≤ n + 1) ∧ (0 ≤ i' ∧ i' ≤ 1048576) := by
  obtain ⟨x1, i1, h1, f1, hx1, hi1⟩ := label_ok b hb i h hi
  obtain ⟨x2, i2, h2, f2, hx2, hi2⟩ := below_ok b hb i1 h1 hi1 (n : Int)
  have hx : x2 ≤ n := by
    by_cases g : (0 : Int) < n
    · have := hx2.2.1 g; omega
    · have := hx2.2.2 (by omega); omega
  obtain ⟨m, rfl⟩ := Int.eq_ofNat_of_zero_le hx2.1
  obtain ⟨l', i', h', a1, a2, a3⟩ := tree_l0 b hb m [⟨x1, 0⟩] i2 h2 (by simp) (by simp; omega) hi2
  refine ⟨l', i', h', ?_, ⟨by rw [a2]; simp; omega, by rw [a2]; simp; omega⟩, a3⟩
  unfold spec_l3Tree.f
  rw [f1]
  simp only [Option.bind_some]
  rw [f2]
  exact a1

/-! spec_l3Any -/
theorem any_loop0 (b : List Int) (hb : b.length ≤ 1048576) (d : Nat) : ∀ (l : List S64) (i h : Int), l.length + d = 600 → (0 ≤ i ∧ i ≤ 1048576) → ∃ l' i' h', Ev (fun k => spec_l3Any.l0 k l b i h) (l', i', h') ∧ l'.length ≤ 600 ∧ (0 ≤ i' ∧ i' ≤ 1048576) := by
  induction d with
  | zero =>
    intro l i h hl hi
    obtain ⟨x1, i1, h1, f1, hx1, hi1⟩ := below_ok b hb i h hi 2
    have := hx1.2.1 (by omega)
    have e1 : wrap64 (24 + x1) = 24 + x1 := w64 (by omega) (by omega)
    exact ⟨l, i1, h1, Ev.step (f := fun _ => some (l, i1, h1)) (fun k => by rw [spec_l3Any.l0, f1]; simp only [Option.bind_some]; rw [e1, if_neg (by omega)]) (Ev.now _), by omega, hi1⟩
  | succ d ih =>
    intro l i h hl hi
    obtain ⟨x1, i1, h1, f1, hx1, hi1⟩ := below_ok b hb i h hi 2
    by_cases g : (l.length : Int) < wrap64 (24 + x1)
    · obtain ⟨l', i', h', a1, a2, a3⟩ := ih (l ++ [⟨1, 1⟩]) i1 h1 (by simp; omega) hi1
      exact ⟨l', i', h', Ev.step (fun k => by rw [spec_l3Any.l0, f1]; simp only [Option.bind_some]; rw [if_pos g, if_pos (by omega)]) a1, a2, a3⟩
    · exact ⟨l, i1, h1, Ev.step (f := fun _ => some (l, i1, h1)) (fun k => by rw [spec_l3Any.l0, f1]; simp only [Option.bind_some]; rw [if_neg g]) (Ev.now _), by omega, hi1⟩
theorem any_loop1 (b : List Int) (hb : b.length ≤ 1048576) (d : Nat) : ∀ (l : List S64) (i h : Int), l.length + d = 600 → (0 ≤ i ∧ i ≤ 1048576) → ∃ l' i' h', Ev (fun k => spec_l3Any.l1 k l b i h) (l', i', h') ∧ l'.length ≤ 600 ∧ (0 ≤ i' ∧ i' ≤ 1048576) := by
  induction d with
  | zero =>
    intro l i h hl hi
    obtain ⟨x1, i1, h1, f1, hx1, hi1⟩ := below_ok b hb i h hi 2
    have := hx1.2.1 (by omega)
    have e1 : wrap64 (13 + x1) = 13 + x1 := w64 (by omega) (by omega)
    exact ⟨l, i1, h1, Ev.step (f := fun _ => some (l, i1, h1)) (fun k => by rw [spec_l3Any.l1, f1]; simp only [Option.bind_some]; rw [e1, if_neg (by omega)]) (Ev.now _), by omega, hi1⟩
  | succ d ih =>
    intro l i h hl hi
    obtain ⟨x1, i1, h1, f1, hx1, hi1⟩ := below_ok b hb i h hi 2
    by_cases g : (l.length : Int) < wrap64 (13 + x1)
    · obtain ⟨l', i', h', a1, a2, a3⟩ := ih (l ++ [⟨0, (l.length : Int)⟩]) i1 h1 (by simp; omega) hi1
      exact ⟨l', i', h', Ev.step (fun k => by rw [spec_l3Any.l1, f1]; simp only [Option.bind_some]; rw [if_pos g, if_pos (by omega)]) a1, a2, a3⟩
    · exact ⟨l, i1, h1, Ev.step (f := fun _ => some (l, i1, h1)) (fun k => by rw [spec_l3Any.l1, f1]; simp only [Option.bind_some]; rw [if_neg g]) (Ev.now _), by omega, hi1⟩
theorem l3Any_ok (b : List Int) (hb : b.length ≤ 1048576) (i h : Int) (hi : 0 ≤ i ∧ i ≤ 1048576) (n : Nat) (hn : n ≤ 500) : ∃ l i' h', Ev (fun k => spec_l3Any.f k b i h n) (l, i', h') ∧ l.length ≤ 600 ∧ (0 ≤ i' ∧ i' ≤ 1048576) := by
  obtain ⟨t, i1, h1, f1, ht, hi1⟩ := tree_ok b hb i h hi n hn
  obtain ⟨x2, i2, h2, f2, hx2, hi2⟩ := below_ok b hb i1 h1 hi1 (t.length : Int)
  obtain ⟨x3, i3, h3, f3, hx3, hi3⟩ := below_ok b hb i2 h2 hi2 18
  have hlt := hx2.2.1 (by omega)
  suffices key : ∃ l i' h', Ev (fun k => if x3 = 0 then ((spec_l2Any.f b i3 h3).bind fun bt233 => (if 0 ≤ x2 then (if x2 < (t.length : Int) then (some ((t.set (x2 : Int).toNat (⟨bt233.1, (rd_T64 t x2).f1⟩ : S64)), bt233.2.1, bt233.2.2)) else (none)) else (none))) else (if x3 = 1 then (if 0 ≤ x2 then (if x2 < (t.length : Int) then ((spec_l1PickInt.f b i3 h3 (([(-1), 0, 1, 13, wrap64 (((rd_T64 t x2).f1) + 1)] : List Int))).bind fun bt241 => (some ((t.set (x2 : Int).toNat (⟨(rd_T64 t x2).f0, bt241.1⟩ : S64)), bt241.2.1, bt241.2.2))) else (none)) else (none)) else (if x3 = 2 then (if 1 ≤ (t.length : Int) then (some ((t.drop (1 : Int).toNat), i3, h3)) else (none)) else (if x3 = 3 then (spec_l3Any.l0 k t b i3 h3) else (if x3 = 4 then (spec_l3Any.l1 k (([(⟨0, 0⟩ : S64)] : List (S64))) b i3 h3) else (some (t, i3, h3))))))) (l, i', h') ∧ l.length ≤ 600 ∧ (0 ≤ i' ∧ i' ≤ 1048576) by
    obtain ⟨l, i', h', a1, a2, a3⟩ := key
    refine ⟨l, i', h', ?_, a2, a3⟩
    unfold spec_l3Any.f
    refine Ev.bind f1 ?_
    simp only [f2, f3, Option.bind_some]
    exact a1
  by_cases g0 : x3 = 0
  · obtain ⟨x4, i4, h4, f4, _, hi4⟩ := any_ok b hb i3 h3 hi3
    simp only [if_pos g0, f4, Option.bind_some, if_pos hx2.1, if_pos hlt]
    exact ⟨_, _, _, Ev.now _, by simp; omega, hi4⟩
  · simp only [if_neg g0]
    by_cases g1 : x3 = 1
    · obtain ⟨x4, i4, h4, f4, _, hi4⟩ := pickInt_ok b hb i3 h3 hi3 [(-1), 0, 1, 13, wrap64 (((rd_T64 t x2).f1) + 1)] (by simp)
      simp only [if_pos g1, f4, Option.bind_some, if_pos hx2.1, if_pos hlt]
      exact ⟨_, _, _, Ev.now _, by simp; omega, hi4⟩
    · simp only [if_neg g1]
      by_cases g2 : x3 = 2
      · simp only [if_pos g2, if_pos (show (1 : Int) ≤ (t.length : Int) by omega)]
        exact ⟨_, _, _, Ev.now _, by simp; omega, hi3⟩
      · simp only [if_neg g2]
        by_cases g3 : x3 = 3
        · simp only [if_pos g3]
          exact any_loop0 b hb (600 - t.length) t i3 h3 (by omega) hi3
        · simp only [if_neg g3]
          by_cases g4 : x3 = 4
          · simp only [if_pos g4]
            exact any_loop1 b hb 599 [⟨0, 0⟩] i3 h3 (by simp) hi3
          · simp only [if_neg g4]
            exact ⟨_, _, _, Ev.now _, by omega, hi3⟩

/-! spec_l3Where -/
theorem where_ok (b : List Int) (hb : b.length ≤ 1048576) (i h : Int) (hi : 0 ≤ i ∧ i ≤ 1048576) : ∃ l x i' h', Ev (fun k => spec_l3Where.f k b i h) (l, x, i', h') ∧ l.length ≤ 600 ∧ (-1 ≤ x ∧ x ≤ 600) ∧ (0 ≤ i' ∧ i' ≤ 1048576) := by
  obtain ⟨l, i1, h1, f1, hl, hi1⟩ := l3Any_ok b hb i h hi 12 (by omega)
  obtain ⟨x2, i2, h2, f2, hi2⟩ := once_ok b hb i1 h1 hi1 10
  cases x2 with
  | true =>
    obtain ⟨x3, i3, h3, f3, hx3, hi3⟩ := pickInt_ok b hb i2 h2 hi2 [(-1), (l.length : Int)] (by simp)
    refine ⟨l, x3, i3, h3, ?_, hl, ?_, hi3⟩
    · unfold spec_l3Where.f
      refine Ev.bind f1 ?_
      simp only [f2, Option.bind_some, if_true, f3]
      exact Ev.now _
    · simp only [List.mem_cons, List.not_mem_nil, or_false] at hx3; omega
  | false =>
    obtain ⟨x3, i3, h3, f3, hx3, hi3⟩ := below_ok b hb i2 h2 hi2 (mx 1 (l.length : Int))
    refine ⟨l, x3, i3, h3, ?_, hl, ?_, hi3⟩
    · unfold spec_l3Where.f
      refine Ev.bind f1 ?_
      simp only [f2, Option.bind_some, Bool.false_eq_true, if_false, f3]
      exact Ev.now _
    · have hm : 0 < mx 1 (l.length : Int) ∧ mx 1 (l.length : Int) ≤ 600 := by
        unfold mx; by_cases g : (1 : Int) < l.length
        · rw [if_pos g]; omega
        · rw [if_neg g]; omega
      have := hx3.2.1 hm.1; omega

/-! spec_l6Two -/
theorem two_ok (b : List Int) (hb : b.length ≤ 1048576) (i h : Int) (hi : 0 ≤ i ∧ i ≤ 1048576) : ∃ l x y i' h', Ev (fun k => spec_l6Two.f k b i h) (l, x, y, i', h') ∧ l.length ≤ 600 ∧ (-1 ≤ x ∧ x ≤ 600) ∧ (0 ≤ i' ∧ i' ≤ 1048576) := by
  obtain ⟨l, x, i1, h1, f1, hl, hx, hi1⟩ := where_ok b hb i h hi
  obtain ⟨x2, i2, h2, f2, hx2, hi2⟩ := below_ok b hb i1 h1 hi1 (wrap64 ((l.length : Int) + 1))
  obtain ⟨x3, i3, h3, f3, hx3, hi3⟩ := below_ok b hb i2 h2 hi2 8
  refine ⟨l, x, wrap64 (x2 - wrap64 (Int.tdiv x3 7)), i3, h3, ?_, hl, hx, hi3⟩
  · unfold spec_l6Two.f
    refine Ev.bind f1 ?_
    simp only [f2, f3, Option.bind_some]
    exact Ev.now _

/-! spec_DrawUnder -/
theorem drawUnder_ok (c : List Int) (hc : c.length ≤ 1048576) : ∃ l x y, Ev (fun k => spec_DrawUnder.f k c) (l, x, y) ∧ l.length ≤ 600 := by
  obtain ⟨h, a⟩ := new_ok c hc
  obtain ⟨l, x, y, i', h', a1, a2, _, _⟩ := two_ok c hc 0 h (by omega)
  exact ⟨l, x, y, by unfold spec_DrawUnder.f; exact Ev.bind a (Ev.bind a1 (Ev.now _)), a2⟩

/-! impl_Under -/
theorem impl_Under_ev (l : List S64) (hl : l.length ≤ 1048576) (a b : Int) : Ev (fun k => impl_Under.f k l a b) (underT l a b) := by
  unfold impl_Under.f underT
  refine Ev.bind (impl_hasNode_ev l hl a) ?_
  by_cases h : atB (lab l) (dep l) l.length a = true
  · simp only [if_pos h]
    refine Ev.bind (impl_hasNode_ev l hl b) ?_
    rw [h, Bool.true_and]
    by_cases h2 : atB (lab l) (dep l) l.length b = true
    · simp only [if_pos h2]
      rw [h2, Bool.true_and]
      obtain ⟨i, rfl, hi, _⟩ := atB_nat h
      by_cases h3 : (i : Int) < b
      · simp only [if_pos (show ((i : Int) < b) by omega)]
        refine Ev.bind (impl_endOf_ev l hl i hi) ?_
        simp only [Int.toNat_natCast]
        exact evSome (by simp [h3])
      · simp only [if_neg (show ¬ ((i : Int) < b) by omega)]
        exact evSome (by simp [h3])
    · simp only [if_neg h2]
      exact evSome (by simp [h2])
  · simp only [if_neg h]
    exact evSome (by simp [h])

/-! impl_LeftOf -/
theorem impl_LeftOf_ev (l : List S64) (hl : l.length ≤ 1048576) (a b : Int) : Ev (fun k => impl_LeftOf.f k l a b) (leftT l a b) := by
  unfold impl_LeftOf.f leftT
  refine Ev.bind (impl_hasNode_ev l hl a) ?_
  by_cases h : atB (lab l) (dep l) l.length a = true
  · simp only [if_pos h]
    refine Ev.bind (impl_hasNode_ev l hl b) ?_
    rw [h, Bool.true_and]
    by_cases h2 : atB (lab l) (dep l) l.length b = true
    · simp only [if_pos h2]
      rw [h2, Bool.true_and]
      obtain ⟨i, rfl, hi, _⟩ := atB_nat h
      refine Ev.bind (impl_endOf_ev l hl i hi) ?_
      simp only [Int.toNat_natCast]
      exact Ev.now _
    · simp only [if_neg h2]
      exact evSome (by simp [h2])
  · simp only [if_neg h]
    exact evSome (by simp [h])

/-! spec_l3At -/
theorem spec_l3At_ev (l : List S64) (hl : l.length ≤ 1048576) (a : Int) : Ev (fun k => spec_l3At.f k l a) (atB (lab l) (dep l) l.length a) := by
  unfold spec_l3At.f
  refine Ev.bind (spec_TreeOk_ev l hl) ?_
  have e : wrap64 ((l.length : Int) - 1) = (l.length : Int) - 1 := w64 (by omega) (by omega)
  simp only [spec_l1In_eq, Option.bind_some, e, atB]
  by_cases h : treeB (lab l) (dep l) l.length = true
  · simp only [h, if_true, Bool.true_and]; exact Ev.now _
  · simp only [Bool.eq_false_iff.mpr h, Bool.false_eq_true, if_false, Bool.false_and]; exact Ev.now _

/-! spec_EndOf -/
theorem spec_EndOf_l0 (l : List S64) (hl : l.length ≤ 1048576) (i : Nat) (hi : i < l.length) (d : Nat) : ∀ j : Nat, j + d = l.length → Ev (fun k => spec_EndOf.l0 k l i j) ((endGo (dep l) (dep l i) d j : Nat) : Int) := by
  induction d with
  | zero =>
    intro j hj
    exact Ev.step (f := fun _ => some ((j : Nat) : Int)) (fun k => by simp only [spec_EndOf.l0]; rw [if_neg (by omega)]) (Ev.now _)
  | succ d ih =>
    intro j hj
    have c1 : (j : Int) < (l.length : Int) := by omega
    have c2 : (0 : Int) ≤ (j : Int) := by omega
    have c3 : (0 : Int) ≤ (i : Int) := by omega
    have c4 : (i : Int) < (l.length : Int) := by omega
    have e4 : wrap64 ((j : Int) + 1) = ((j + 1 : Nat) : Int) := by rw [w64 (by omega) (by omega)]; rfl
    refine Ev.step (fun k => by simp only [spec_EndOf.l0]; rw [if_pos c1, if_pos c2, if_pos c3, if_pos c4, e4, rdN, rdN]) ?_
    simp only [endGo]
    by_cases h : dep l j > dep l i
    · simp only [if_pos h]; exact ih (j + 1) (by omega)
    · simp only [if_neg h]; exact Ev.now _

theorem spec_EndOf_ev (l : List S64) (hl : l.length ≤ 1048576) (a : Int) : Ev (fun k => spec_EndOf.f k l a) (if atB (lab l) (dep l) l.length a = true then ((endI (dep l) l.length a.toNat : Nat) : Int) else -1) := by
  unfold spec_EndOf.f
  refine Ev.bind (spec_l3At_ev l hl a) ?_
  by_cases h : atB (lab l) (dep l) l.length a = true
  · obtain ⟨i, rfl, hi, _⟩ := atB_nat h
    have e4 : wrap64 ((i : Int) + 1) = ((i + 1 : Nat) : Int) := by rw [w64 (by omega) (by omega)]; rfl
    simp only [if_pos h, e4, Int.toNat_natCast]
    exact spec_EndOf_l0 l hl i hi (l.length - (i + 1)) (i + 1) (by omega)
  · simp only [if_neg h]; exact Ev.now _

/-! spec_Under -/
theorem spec_Under_ev (l : List S64) (hl : l.length ≤ 1048576) (a b : Int) : Ev (fun k => spec_Under.f k l a b) (underT l a b) := by
  unfold spec_Under.f underT
  refine Ev.bind (spec_l3At_ev l hl a) ?_
  by_cases h : atB (lab l) (dep l) l.length a = true
  · simp only [if_pos h]
    refine Ev.bind (spec_l3At_ev l hl b) ?_
    rw [h, Bool.true_and]
    by_cases h2 : atB (lab l) (dep l) l.length b = true
    · simp only [if_pos h2]
      rw [h2, Bool.true_and]
      obtain ⟨i, rfl, hi, _⟩ := atB_nat h
      by_cases h3 : (i : Int) < b
      · simp only [if_pos (show (b > (i : Int)) by omega)]
        refine Ev.bind (spec_EndOf_ev l hl _) ?_
        simp only [if_pos h, Int.toNat_natCast]
        exact evSome (by simp [h3])
      · simp only [if_neg (show ¬ (b > (i : Int)) by omega)]
        exact evSome (by simp [h3])
    · simp only [if_neg h2]
      exact evSome (by simp [h2])
  · simp only [if_neg h]
    exact evSome (by simp [h])

theorem par_facts (l : List S64) (j : Nat) (ht : treeP (lab l) (dep l) l.length) (hj : j < l.length) (h0 : 0 < j) : ∃ p : Nat, parI (dep l) j = (p : Int) ∧ p < j ∧ dep l p = dep l j - 1 ∧ j < endI (dep l) l.length p := by
  have hd0 := dep_zero ht
  have hdj := dep_step ht h0 hj
  have key : ∀ m : Nat, m ≤ j → (∀ k, m ≤ k → k < j → dep l k ≥ dep l j) → ∃ p : Nat, parGo (dep l) (dep l j) m = (p : Int) ∧ p < m ∧ ¬ dep l p ≥ dep l j ∧ ∀ k, p < k → k < j → dep l k ≥ dep l j := by
    intro m
    induction m with
    | zero => intro _ hall; have := hall 0 (by omega) h0; omega
    | succ m ih =>
      intro hm hall
      simp only [parGo]
      by_cases h : dep l m ≥ dep l j
      · rw [if_pos h]
        obtain ⟨p, h1, h2, h3, h4⟩ := ih (by omega) (fun k ha hb => by
          by_cases e : k = m
          · rw [e]; exact h
          · exact hall k (by omega) hb)
        exact ⟨p, h1, by omega, h3, h4⟩
      · rw [if_neg h]
        exact ⟨m, rfl, by omega, h, fun k ha hb => hall k (by omega) hb⟩
  obtain ⟨p, h1, h2, h3, h4⟩ := key j (Nat.le_refl _) (fun k ha hb => by omega)
  have hdp : dep l p ≥ dep l j - 1 := by
    have hs := dep_step ht (i := p + 1) (by omega) (by omega)
    rw [Nat.add_sub_cancel] at hs
    by_cases e : p + 1 = j
    · rw [e] at hs; omega
    · have := h4 (p + 1) (by omega) (by omega); omega
  refine ⟨p, h1, h2, by omega, ?_⟩
  by_cases c : j < endI (dep l) l.length p
  · exact c
  · exfalso
    have hel := endI_le (dep l) l.length p (by omega)
    have hat := endI_at (dep := dep l) (n := l.length) (i := p) (by omega) (by omega)
    by_cases e : endI (dep l) l.length p = j
    · rw [e] at hat; omega
    · have := h4 (endI (dep l) l.length p) (by omega) (by omega)
      omega
theorem under_no (l : List S64) (x y : Int) (h : ¬ (atB (lab l) (dep l) l.length x = true ∧ atB (lab l) (dep l) l.length y = true)) : underT l x y = false ∧ leftT l x y = false := by
  unfold underT leftT
  by_cases h1 : atB (lab l) (dep l) l.length x = true
  · have h2 : ¬ atB (lab l) (dep l) l.length y = true := fun e => h ⟨h1, e⟩
    simp [h1, Bool.eq_false_iff.mpr h2]
  · simp [Bool.eq_false_iff.mpr h1]
theorem kin_no (l : List S64) (x y : Int) (hl : l.length ≤ 1048576) (h : ¬ (atB (lab l) (dep l) l.length x = true ∧ atB (lab l) (dep l) l.length y = true)) : Ev (fun k => laws_FnKin.j0 k l x y true) true := by
  obtain ⟨h1, h2⟩ := under_no l x y h
  refine Ev.step (fun k => by rw [laws_FnKin.j0]) ?_
  simp only [if_true]
  refine Ev.bind (impl_Under_ev l hl x y) ?_
  rw [h1]
  simp only [Bool.false_eq_true, if_false]
  refine Ev.bind (impl_LeftOf_ev l hl x y) ?_
  rw [h2]
  exact Ev.now _
theorem kin_end (l : List S64) (hl : l.length ≤ 1048576) (ht : treeP (lab l) (dep l) l.length) (j : Nat) (hj : j < l.length) (xs : List Bool) (n : Int) (hn : n = 1) : Ev (fun k => laws_FnKin.l0 k l (j : Int) n xs 5) true := by
  subst hn
  have hat : atB (lab l) (dep l) l.length (j : Int) = true := atB_iff.2 ⟨ht, by omega, by omega⟩
  refine Ev.step (fun k => by rw [laws_FnKin.l0, if_neg (by decide)]) ?_
  refine Ev.bind (impl_ParentOf_ev l hl _) ?_
  simp only [if_pos hat, Int.toNat_natCast, if_true]
  by_cases h0 : 0 < j
  · obtain ⟨p, h1, h2, h3, h4⟩ := par_facts l j ht hj h0
    have e1 : decide ((p : Int) < 0) = false := decide_eq_false (by omega)
    have e2 : ((j : Int) == 0) = false := beq_eq_false_iff_ne.2 (by omega)
    have e3 : ¬ ((p : Int) < 0) := by omega
    rw [h1]
    simp only [e1, e2, beq_self_eq_true, if_true, if_neg e3]
    refine Ev.bind (spec_Under_ev l hl (p : Int) (j : Int)) ?_
    have hatp : atB (lab l) (dep l) l.length (p : Int) = true := atB_iff.2 ⟨ht, by omega, by omega⟩
    have hu : underT l (p : Int) (j : Int) = true := by
      unfold underT
      rw [hatp, hat]
      simp only [Bool.true_and, Int.toNat_natCast]
      exact decide_eq_true ⟨by omega, by omega⟩
    have hdj := dep_range ht hj
    have e4 : wrap64 (dep l j - 1) = dep l j - 1 := w64 (by omega) (by omega)
    have c1 : (0 : Int) ≤ (p : Int) := by omega
    have c2 : (p : Int) < (l.length : Int) := by omega
    have c3 : (0 : Int) ≤ (j : Int) := by omega
    have c4 : (j : Int) < (l.length : Int) := by omega
    rw [hu]
    simp only [if_true, if_pos c1, if_pos c2, if_pos c3, if_pos c4, rdN, e4, if_pos h3]
    refine Ev.bind (impl_KidRank_ev l hl _) ?_
    have hr : 0 ≤ rankT l (j : Int) := by
      rw [rankT_yes l _ hat (by rw [Int.toNat_natCast, h1]; omega), Int.toNat_natCast, h1, Int.toNat_natCast]
      have hmem : (j : Int) ∈ kidsI (dep l) l.length p := (kidGo_mem _ _ _ _ _).2 ⟨j, rfl, by omega, by have := endI_le (dep l) l.length p (by omega); omega, by omega⟩
      have key : ∀ (xs : List Int) (k : Nat), (j : Int) ∈ xs → 0 ≤ idxGo (j : Int) xs k := by
        intro xs
        induction xs with
        | nil => intro k h; simp at h
        | cons y xs ih =>
          intro k h
          simp only [idxGo]
          by_cases c : (j : Int) = y
          · rw [if_pos c]; omega
          · rw [if_neg c]
            exact ih (k + 1) (by simpa [c] using h)
      exact key _ 0 hmem
    exact evSome (by rw [decide_eq_false (by omega)]; rfl)
  · have h00 : j = 0 := by omega
    subst h00
    have e0 : parI (dep l) 0 = -1 := rfl
    rw [e0]
    have e1 : decide ((-1 : Int) < 0) = true := by decide
    have e2 : (((0 : Nat) : Int) == 0) = true := rfl
    simp only [e1, e2, beq_self_eq_true, if_true, if_pos (show (-1 : Int) < 0 by decide)]
    refine Ev.bind (impl_KidRank_ev l hl _) ?_
    rw [rankT_no l _ (fun h => by have := h.2; rw [show ((0 : Nat) : Int).toNat = 0 from rfl, e0] at this; omega)]
    exact Ev.now _
theorem kin_loop (l : List S64) (x5 : Int) (xs : List Bool) (h5 : xs.length = 5) (hend : Ev (fun k => laws_FnKin.l0 k l x5 (((xs.filter id).length : Nat) : Int) xs 5) true) (d : Nat) : ∀ j : Nat, j + d = 5 → Ev (fun k => laws_FnKin.l0 k l x5 ((((xs.take j).filter id).length : Nat) : Int) xs (j : Int)) true := by
  induction d with
  | zero =>
    intro j hj
    have : j = 5 := by omega
    subst this
    rw [List.take_of_length_le (by omega)]
    exact hend
  | succ d ih =>
    intro j hj
    have c0 : (j : Int) < 5 := by omega
    have c1 : (0 : Int) ≤ (j : Int) := by omega
    have c2 : (j : Int) < (xs.length : Int) := by omega
    have hjl : j < xs.length := by omega
    have e1 : rdOf false xs (j : Int) = xs[j] := by unfold rdOf; simp [List.getD_eq_getElem?_getD, hjl]
    have e2 : xs.take (j + 1) = xs.take j ++ [xs[j]] := List.take_succ_eq_append_getElem hjl
    have e3 : wrap64 ((j : Int) + 1) = ((j + 1 : Nat) : Int) := by rw [w64 (by omega) (by omega)]; rfl
    have hle : ((xs.take j).filter id).length ≤ 5 := Nat.le_trans (List.length_filter_le _ _) (by rw [List.length_take]; omega)
    have e4 : wrap64 ((((xs.take j).filter id).length : Int) + 1) = ((((xs.take j).filter id).length + 1 : Nat) : Int) := by rw [w64 (by omega) (by omega)]; rfl
    have hn := ih (j + 1) (by omega)
    rw [e2, List.filter_append] at hn
    refine Ev.step (fun k => by rw [laws_FnKin.l0, if_pos c0, if_pos c1, if_pos c2, e1, e3, e4]) ?_
    cases hb : xs[j] with
    | true =>
      rw [hb] at hn
      simp only [if_true]
      simpa using hn
    | false =>
      rw [hb] at hn
      simp only [Bool.false_eq_true, if_false]
      simpa using hn
theorem kin_one (l : List S64) (ht : treeP (lab l) (dep l) l.length) (i j : Nat) (hi : i < l.length) (hj : j < l.length) : (([((i : Int) == (j : Int)), underT l i j, underT l j i, leftT l i j, leftT l j i] : List Bool).filter id).length = 1 := by
  have hai : atB (lab l) (dep l) l.length (i : Int) = true := atB_iff.2 ⟨ht, by omega, by omega⟩
  have haj : atB (lab l) (dep l) l.length (j : Int) = true := atB_iff.2 ⟨ht, by omega, by omega⟩
  have hei := endI_le (dep l) l.length i hi
  have hej := endI_le (dep l) l.length j hj
  unfold underT leftT
  simp only [hai, haj, Bool.true_and, Int.toNat_natCast]
  have f : ∀ (p : Prop) [Decidable p], p → decide p = true := fun p _ h => decide_eq_true h
  have g : ∀ (p : Prop) [Decidable p], ¬ p → decide p = false := fun p _ h => decide_eq_false h
  rcases Nat.lt_trichotomy i j with h | h | h
  · rw [show ((i : Int) == (j : Int)) = false from beq_eq_false_iff_ne.2 (by omega), g ((j : Int) < i ∧ _) (by omega), g ((i : Int) ≥ _) (by omega)]
    by_cases c : j < endI (dep l) l.length i
    · rw [f (_ ∧ _) ⟨by omega, by omega⟩, g ((j : Int) ≥ _) (by omega)]; rfl
    · rw [g (_ ∧ _) (by omega), f ((j : Int) ≥ _) (by omega)]; rfl
  · subst h
    rw [show ((i : Int) == (i : Int)) = true from beq_self_eq_true _, g ((i : Int) < i ∧ _) (by omega), g ((i : Int) ≥ _) (by omega)]; rfl
  · rw [show ((i : Int) == (j : Int)) = false from beq_eq_false_iff_ne.2 (by omega), g ((i : Int) < j ∧ _) (by omega), g ((j : Int) ≥ _) (by omega)]
    by_cases c : i < endI (dep l) l.length j
    · rw [f (_ ∧ _) ⟨by omega, by omega⟩, g ((i : Int) ≥ _) (by omega)]; rfl
    · rw [g (_ ∧ _) (by omega), f ((i : Int) ≥ _) (by omega)]; rfl
theorem law : laws_FnKin.Pure := by
  intro c hc1 hc2 _
  refine Ev.rounds ?_
  unfold laws_FnKin.f
  simp only [big_eq, Option.bind_some, decide_eq_true_eq]
  by_cases hbig : (c.length : Int) > 1048576
  · simp only [if_pos hbig]; exact Ev.now _
  · simp only [if_neg hbig]
    obtain ⟨l, x, y, hd, hl⟩ := drawUnder_ok c (by omega)
    have hl' : l.length ≤ 1048576 := by omega
    refine Ev.bind hd ?_
    refine Ev.bind (spec_TreeOk_ev l hl') ?_
    by_cases ht : treeB (lab l) (dep l) l.length = true
    · simp only [if_pos ht]
      have ht2 := treeB_iff.1 ht
      by_cases hx : x < 0
      · simp only [if_pos hx]
        exact kin_no l x y hl' (fun h => by have := (atB_iff.1 h.1).2.1; omega)
      · simp only [if_neg hx]
        by_cases hy : y < 0
        · simp only [if_pos hy]
          exact kin_no l x y hl' (fun h => by have := (atB_iff.1 h.2).2.1; omega)
        · simp only [if_neg hy]
          by_cases hx2 : x ≥ (l.length : Int)
          · simp only [if_pos hx2]
            exact kin_no l x y hl' (fun h => by have := (atB_iff.1 h.1).2.2; omega)
          · simp only [if_neg hx2]
            by_cases hy2 : y ≥ (l.length : Int)
            · rw [decide_eq_true hy2]
              exact kin_no l x y hl' (fun h => by have := (atB_iff.1 h.2).2.2; omega)
            · rw [decide_eq_false hy2]
              obtain ⟨i, rfl⟩ := Int.eq_ofNat_of_zero_le (show 0 ≤ x by omega)
              obtain ⟨j, rfl⟩ := Int.eq_ofNat_of_zero_le (show 0 ≤ y by omega)
              refine Ev.step (fun k => by rw [laws_FnKin.j0]) ?_
              simp only [Bool.false_eq_true, if_false]
              refine Ev.bind (impl_Under_ev l hl' _ _) (Ev.bind (impl_Under_ev l hl' _ _) (Ev.bind (impl_LeftOf_ev l hl' _ _) (Ev.bind (impl_LeftOf_ev l hl' _ _) ?_)))
              have h1 := kin_one l ht2 i j (by omega) (by omega)
              have := kin_loop l (j : Int) [((i : Int) == (j : Int)), underT l i j, underT l j i, leftT l i j, leftT l j i] rfl (kin_end l hl' ht2 j (by omega) _ _ (by rw [h1]; rfl)) 5 0 rfl
              simpa using this
    · simp only [if_neg ht]
      exact kin_no l x y hl' (fun h => ht (treeB_iff.2 (atB_iff.1 h.1).1))

end Go.Proofs.Yteflhablmeelbaa.PureFnKin
namespace Go.Proofs.Yteflhablmeelbaa.Pure
open Go.RowKit Go.Proofs.Yteflhablmeelbaa.HFnKin
theorem FnKin : laws_FnKin.Pure := Go.Proofs.Yteflhablmeelbaa.PureFnKin.law
end Go.Proofs.Yteflhablmeelbaa.Pure
