/- For every text, the program's ReadTree and the reference's ReadTree give the same list and the same word on it, in memory of its own. Condition: none but the model's own bound on a text's size. -/
import Derived.Test.YtbdjconojnjgdaaHFnExactReadTreex7
import Derived.Test.YtbdjconojnjgdaaM
import Derived.Test.YtbdjconojnjgdaaT
import Derived.Test.YtbdjconojnjgdaaQ
import Derived.Test.YtbdjconojnjgdaaMB
import Derived.Test.YtbdjconojnjgdaaTB
namespace Go.Proofs.Ytbdjconojnjgdaa.PureFnExactReadTree
open Go.RowKit Go.Proofs.Ytbdjconojnjgdaa.HFnExactReadTree Go.Proofs.YtbdjconojnjgdaaW.PrintWords Go.Proofs.YtbdjconojnjgdaaW.PrintLast Go.Proofs.YtbdjconojnjgdaaW.PrintMore Go.Proofs.Ytbdjconojnjgdaa.M Go.Proofs.Ytbdjconojnjgdaa.T
set_option linter.unusedVariables false
set_option linter.unusedSimpArgs false

abbrev lab (l : List S65) (i : Nat) : Int := (l.getD i z65).f0
abbrev dep (l : List S65) (i : Nat) : Int := (l.getD i z65).f1
theorem rdN (l : List S65) (i : Nat) : rd_T65 l (i : Int) = l.getD i z65 := by unfold rd_T65; simp
def subGo (l : List S65) (v : Int) : Nat → Nat → List S65
  | 0, _ => []
  | d + 1, j => ⟨lab l j, dep l j - v⟩ :: subGo l v d (j + 1)
theorem subGo_len (l : List S65) (v : Int) (d : Nat) : ∀ j, (subGo l v d j).length = d := by
  induction d with
  | zero => intro j; rfl
  | succ d ih => intro j; simp [subGo, ih]
def subT (l : List S65) (a : Int) : List S65 := if atB (lab l) (dep l) l.length a = true then subGo l (dep l a.toNat) (endI (dep l) l.length a.toNat - a.toNat) a.toNat else []
theorem subT_small (l : List S65) (a : Int) (hl : l.length ≤ 1048576) : (subT l a).length ≤ 1048576 := by
  unfold subT
  by_cases h : atB (lab l) (dep l) l.length a = true
  · obtain ⟨i, rfl, hi, _⟩ := atB_nat h
    rw [if_pos h, subGo_len]
    have := endI_le (dep l) l.length i hi
    simp only [Int.toNat_natCast]; omega
  · rw [if_neg h]; simp
/-- Which child of its parent a node is. -/
def rankT (l : List S65) (a : Int) : Int := if atB (lab l) (dep l) l.length a = true ∧ 0 ≤ parI (dep l) a.toNat then idxGo a (kidsI (dep l) l.length (parI (dep l) a.toNat).toNat) 0 else -1
theorem rankT_yes (l : List S65) (a : Int) (h : atB (lab l) (dep l) l.length a = true) (h0 : 0 ≤ parI (dep l) a.toNat) : rankT l a = idxGo a (kidsI (dep l) l.length (parI (dep l) a.toNat).toNat) 0 := by unfold rankT; rw [if_pos ⟨h, h0⟩]
theorem rankT_no (l : List S65) (a : Int) (h : ¬ (atB (lab l) (dep l) l.length a = true ∧ 0 ≤ parI (dep l) a.toNat)) : rankT l a = -1 := by unfold rankT; rw [if_neg h]
theorem par_at (l : List S65) (a : Int) (h : atB (lab l) (dep l) l.length a = true) (h0 : 0 ≤ parI (dep l) a.toNat) : atB (lab l) (dep l) l.length (parI (dep l) a.toNat) = true := by
  obtain ⟨i, rfl, hi, ht⟩ := atB_nat h
  have := parGo_range (dep l) (dep l i) i
  simp only [Int.toNat_natCast, parI] at h0 ⊢
  exact atB_iff.2 ⟨ht, h0, by omega⟩
theorem kids_small (l : List S65) (i : Nat) (hi : i < l.length) (hl : l.length ≤ 1048576) : (kidsI (dep l) l.length i).length ≤ 1048576 := by
  have := kidGo_len (dep l) (dep l i + 1) (endI (dep l) l.length i - (i + 1)) (i + 1)
  have := endI_le (dep l) l.length i hi
  unfold kidsI; omega
theorem kidsT_small (l : List S65) (a : Int) (hl : l.length ≤ 1048576) : (if atB (lab l) (dep l) l.length a = true then kidsI (dep l) l.length a.toNat else []).length ≤ 1048576 := by
  by_cases h : atB (lab l) (dep l) l.length a = true
  · obtain ⟨i, rfl, hi, _⟩ := atB_nat h
    rw [if_pos h]
    have := kidGo_len (dep l) (dep l i + 1) (endI (dep l) l.length i - (i + 1)) (i + 1)
    have := endI_le (dep l) l.length i hi
    simp only [Int.toNat_natCast]
    unfold kidsI; omega
  · rw [if_neg h]; simp
/-- Is node b under node a? -/
def underT (l : List S65) (a b : Int) : Bool := atB (lab l) (dep l) l.length a && (atB (lab l) (dep l) l.length b && decide (a < b ∧ b < ((endI (dep l) l.length a.toNat : Nat) : Int)))
/-- Does node b follow node a, and isn't under it? -/
def leftT (l : List S65) (a b : Int) : Bool := atB (lab l) (dep l) l.length a && (atB (lab l) (dep l) l.length b && decide (b ≥ ((endI (dep l) l.length a.toNat : Nat) : Int)))
def heightT (l : List S65) : Int := if treeB (lab l) (dep l) l.length = true then highGo (dep l) l.length 0 0 else 0
def leavesT (l : List S65) : Int := if treeB (lab l) (dep l) l.length = true then leafGo (dep l) l.length l.length 0 0 else 0
def sameGo (a b : List S65) : Nat → Nat → Bool
  | 0, _ => true
  | d + 1, j => if (!((a.getD j z65).f0 == (b.getD j z65).f0) || (!((a.getD j z65).f1 == (b.getD j z65).f1))) = true then false else sameGo a b d (j + 1)
def sameT (a b : List S65) : Bool := if a.length = b.length then sameGo a b a.length 0 else false
def putGo (l : List S65) : Nat → Nat → ByteArray → ByteArray
  | 0, _, s => s
  | d + 1, j, s => putGo l d (j + 1) (s ++ (varS (lab l j) ++ varS (dep l j)))
def putT (l : List S65) : ByteArray := if treeB (lab l) (dep l) l.length = true then putGo l l.length 0 (varS l.length) else ⟨#[]⟩
/-- A node of depth q can stand behind these. -/
def shapeP (acc : List S65) (i : Nat) (q : Int) : Prop := (i = 0 → q = 0) ∧ (0 < i → 1 ≤ q ∧ q ≤ dep acc (i - 1) + 1)
instance (acc : List S65) (i : Nat) (q : Int) : Decidable (shapeP acc i q) := by unfold shapeP; infer_instance
/-- The nodes at place a on, d of them still to come, i of them behind. -/
def getGo (s : ByteArray) : Nat → Nat → Nat → List S65 → List S65 × Int
  | 0, _, a, acc => if a = s.size then (acc, 0) else ([], 6)
  | d + 1, i, a, acc =>
    let r := readVar (s.extract a s.size)
    if r.2 = 0 then ([], 1)
    else if ¬ (0 ≤ r.1 ∧ r.1 ≤ 5) then ([], 3)
    else
      let q := readVar (s.extract (a + r.2.toNat) s.size)
      if q.2 = 0 then ([], 1)
      else if q.1 > 12 then ([], 4)
      else if ¬ shapeP acc i q.1 then ([], 5)
      else getGo s d (i + 1) (a + r.2.toNat + q.2.toNat) (acc ++ [⟨r.1, q.1⟩])
def getT (s : ByteArray) : List S65 × Int :=
  let r := readVar s
  if r.2 = 0 then ([], 1) else if ¬ (1 ≤ r.1 ∧ r.1 ≤ 24) then ([], 2) else getGo s r.1.toNat 0 r.2.toNat []
theorem getGo_len (s : ByteArray) (d : Nat) : ∀ (i a : Nat) (acc : List S65), (getGo s d i a acc).1.length ≤ acc.length + d := by
  induction d with
  | zero => intro i a acc; simp only [getGo]; split <;> simp
  | succ d ih =>
    intro i a acc
    simp only [getGo]
    split
    · simp
    split
    · simp
    split
    · simp
    split
    · simp
    split
    · simp
    have := ih (i + 1) (a + (readVar (s.extract a s.size)).2.toNat + (readVar (s.extract (a + (readVar (s.extract a s.size)).2.toNat) s.size)).2.toNat) (acc ++ [⟨(readVar (s.extract a s.size)).1, (readVar (s.extract (a + (readVar (s.extract a s.size)).2.toNat) s.size)).1⟩])
    simp at this ⊢
    omega
theorem getT_small (s : ByteArray) : (getT s).1.length ≤ 1048576 := by
  unfold getT
  simp only
  split
  · simp
  split
  · simp
  rename_i h
  have := getGo_len s (readVar s).1.toNat 0 (readVar s).2.toNat []
  simp at this
  omega

/-! laws_eqNodeS -/
theorem eqNodeS_l0 (l : List S65) (hl : l.length ≤ 1048576) (d : Nat) : ∀ i : Nat, i + d = l.length → Ev (fun k => laws_eqNodeS.l0 k l l i) true := by
  induction d with
  | zero => intro i hi; exact Ev.step (fun k => by simp only [laws_eqNodeS.l0]; rw [if_neg (by omega)]) (Ev.now _)
  | succ d ih =>
    intro i hi
    have e4 : wrap64 ((i : Int) + 1) = ((i + 1 : Nat) : Int) := by rw [w64 (by omega) (by omega)]; rfl
    refine Ev.step (fun k => by simp only [laws_eqNodeS.l0]; rw [if_pos (by omega), if_pos (by omega), if_pos (by omega)]) ?_
    simp only [laws_eqNode.f, if_true, Option.bind_some, e4]
    exact ih (i + 1) (by omega)
theorem eqNodeS_ev (l : List S65) (hl : l.length ≤ 1048576) : Ev (fun k => laws_eqNodeS.f k l l) true := by
  unfold laws_eqNodeS.f
  simp only [if_true]
  exact eqNodeS_l0 l hl l.length 0 (by omega)

/-! spec_l1In -/
theorem spec_l1In_eq (a b c : Int) : spec_l1In.f a b c = some (decide (b ≤ a ∧ a ≤ c)) := by
  unfold spec_l1In.f
  by_cases h : b ≤ a
  · rw [if_pos h]; simp [h]
  · rw [if_neg h]; simp [h]

/-! spec_LabelOk -/
theorem spec_LabelOk_eq (a : Int) : spec_LabelOk.f a = some (decide (0 ≤ a ∧ a ≤ 5)) := by
  unfold spec_LabelOk.f; simp only [spec_l1In_eq, Option.bind_some]

/-! spec_TreeOk -/
theorem spec_TreeOk_l0 (l : List S65) (hl : l.length ≤ 1048576) (d : Nat) : ∀ i : Nat, i + d = l.length → (∀ j, j < i → nodeOk (lab l) (dep l) j) → Ev (fun k => spec_TreeOk.l0 k l i) (treeB (lab l) (dep l) l.length) := by
  induction d with
  | zero =>
    intro i hi hall
    refine Ev.step (fun k => by simp only [spec_TreeOk.l0]; rw [if_neg (by omega)]) ?_
    simp only [spec_l1In_eq, Option.bind_some]
    refine evSome ?_
    have e : i = l.length := by omega
    rw [treeB_all (by rw [← e]; exact hall)]
    congr 1; simp; omega
  | succ d ih =>
    intro i hi hall
    have hil : i < l.length := by omega
    have c1 : (i : Int) < (l.length : Int) := by omega
    have c2 : (0 : Int) ≤ (i : Int) := by omega
    refine Ev.step (fun k => by simp only [spec_TreeOk.l0]; rw [if_pos c1, if_pos c2]) ?_
    simp only [spec_LabelOk_eq, spec_l1In_eq, Option.bind_some, rdN, decide_eq_true_eq]
    by_cases h1 : 0 ≤ lab l i ∧ lab l i ≤ 5
    · simp only [if_pos h1]
      by_cases h2 : 0 ≤ dep l i ∧ dep l i ≤ 12
      · simp only [if_pos h2]
        by_cases h0 : i = 0
        · subst h0
          by_cases hz : dep l 0 = 0
          · have hb : ((dep l 0 == 0) != (((0 : Nat) : Int) == 0)) = false := by rw [hz]; rfl
            have hn := ih 1 (by omega) (fun j hj => by
              have : j = 0 := by omega
              subst this; exact ⟨h1.1, h1.2, h2.1, h2.2, fun _ => hz, fun h => by omega⟩)
            have e4 : wrap64 (((0 : Nat) : Int) + 1) = ((1 : Nat) : Int) := by rw [w64 (by omega) (by omega)]; rfl
            simp only [hb, Bool.false_eq_true, if_false, e4, if_neg (show ¬ ((0 : Nat) : Int) > 0 by omega)]
            exact hn
          · have hb : ((dep l 0 == 0) != (((0 : Nat) : Int) == 0)) = true := by simp [hz]
            simp only [hb, if_true]
            refine evSome (treeB_no hil ?_).symm
            intro h; exact hz (h.2.2.2.2.1 rfl)
        · have hiz : ((i : Int) == 0) = false := by simp; omega
          by_cases hz : dep l i = 0
          · have hb : ((dep l i == 0) != ((i : Int) == 0)) = true := by rw [hiz, hz]; rfl
            simp only [hb, if_true]
            refine evSome (treeB_no hil ?_).symm
            intro h; have := h.2.2.2.2.2 (by omega); omega
          · have hb : ((dep l i == 0) != ((i : Int) == 0)) = false := by rw [hiz]; simp [hz]
            have hp := hall (i - 1) (by omega)
            have hpr : 0 ≤ dep l (i - 1) ∧ dep l (i - 1) ≤ 12 := ⟨hp.2.2.1, hp.2.2.2.1⟩
            have hn : (1 ≤ dep l i ∧ dep l i ≤ dep l (i - 1) + 1) → _ := fun hd => ih (i + 1) (by omega) (fun j hj => by
              by_cases hji : j < i
              · exact hall j hji
              · have : j = i := by omega
                subst this; exact ⟨h1.1, h1.2, h2.1, h2.2, fun h => by omega, fun _ => hd⟩)
            have e3 : wrap64 ((i : Int) - 1) = ((i - 1 : Nat) : Int) := by rw [w64 (by omega) (by omega)]; omega
            have e4 : wrap64 ((i : Int) + 1) = ((i + 1 : Nat) : Int) := by rw [w64 (by omega) (by omega)]; rfl
            have c5 : (0 : Int) ≤ ((i - 1 : Nat) : Int) := by omega
            have c6 : ((i - 1 : Nat) : Int) < (l.length : Int) := by omega
            have e5 : wrap64 (dep l (i - 1) + 1) = dep l (i - 1) + 1 := w64 (by omega) (by omega)
            simp only [hb, Bool.false_eq_true, if_false, e3, e4, if_pos (show (i : Int) > 0 by omega), if_pos c5, if_pos c6, rdN, e5]
            by_cases hd : dep l i > dep l (i - 1) + 1
            · simp only [if_pos hd]
              refine evSome (treeB_no hil ?_).symm
              intro h; have := (h.2.2.2.2.2 (by omega)).2; omega
            · simp only [if_neg hd]
              exact hn ⟨by omega, by omega⟩
      · simp only [if_neg h2]
        exact evSome (treeB_no hil (fun h => h2 ⟨h.2.2.1, h.2.2.2.1⟩)).symm
    · simp only [if_neg h1]
      exact evSome (treeB_no hil (fun h => h1 ⟨h.1, h.2.1⟩)).symm
theorem spec_TreeOk_ev (l : List S65) (hl : l.length ≤ 1048576) : Ev (fun k => spec_TreeOk.f k l) (treeB (lab l) (dep l) l.length) :=
  spec_TreeOk_l0 l hl l.length 0 (by omega) (fun j hj => by omega)

/-! spec_LabelName -/
def nameS (a : Int) : ByteArray := if a = 0 then ⟨#[100, 105, 118]⟩ else if a = 1 then ⟨#[112]⟩ else if a = 2 then ⟨#[97]⟩ else if a = 3 then ⟨#[117, 108]⟩ else if a = 4 then ⟨#[108, 105]⟩ else if a = 5 then ⟨#[98]⟩ else ⟨#[]⟩
theorem nameS_no (a : Int) (h : ¬ (0 ≤ a ∧ a ≤ 5)) : nameS a = ⟨#[]⟩ := by
  unfold nameS
  rw [if_neg (by omega), if_neg (by omega), if_neg (by omega), if_neg (by omega), if_neg (by omega), if_neg (by omega)]
theorem spec_LabelName_eq (a : Int) : spec_LabelName.f a = some (nameS a) := by
  unfold spec_LabelName.f
  simp only [spec_LabelOk_eq, Option.bind_some, decide_eq_true_eq]
  by_cases h : 0 ≤ a ∧ a ≤ 5
  · rw [if_pos h, if_pos h.1]
    obtain ⟨n, rfl⟩ := Int.eq_ofNat_of_zero_le h.1
    have hn : n < 6 := by omega
    match n, hn with
    | 0, _ | 1, _ | 2, _ | 3, _ | 4, _ | 5, _ => rfl
  · rw [if_neg h, nameS_no a h]

def treeText (l : List S65) : ByteArray := if treeB (lab l) (dep l) l.length = true then nameB (lab l 0) ++ (textTo (lab l) (dep l) 1 l.length ++ closeN (dep l (l.length - 1)).toNat) else ⟨#[]⟩
theorem dep_all {l : List S65} (h : treeP (lab l) (dep l) l.length) (j : Nat) : 0 ≤ dep l j ∧ dep l j ≤ 12 := by
  by_cases c : j < l.length
  · exact dep_range h c
  · have e : l.getD j z65 = z65 := by rw [List.getD_eq_getElem?_getD, List.getElem?_eq_none (by omega)]; rfl
    show 0 ≤ (l.getD j z65).f1 ∧ (l.getD j z65).f1 ≤ 12
    rw [e]
    exact ⟨by decide, by decide⟩
theorem close_comm (n : Nat) : (⟨#[41]⟩ : ByteArray) ++ closeN n = closeN n ++ (⟨#[41]⟩ : ByteArray) := by
  induction n with
  | zero => exact (app_nil _).trans (nil_app _).symm
  | succ n ih => simp only [closeN]; rw [← ByteArray.append_assoc, ih]
theorem treeText_size {l : List S65} (h : treeP (lab l) (dep l) l.length) (a b : Nat) (hb : b ≤ l.length) : (textTo (lab l) (dep l) a b).size ≤ 400 := by
  have h1 := textTo_size (lab l) (dep l) (dep_all h) (b - a) a
  have := h.1
  unfold textTo; omega
theorem end_first {l : List S65} (h : treeP (lab l) (dep l) l.length) : endI (dep l) l.length 0 = l.length := by
  have hn := h.1
  have hel := endI_le (dep l) l.length 0 (by omega)
  by_cases c : endI (dep l) l.length 0 < l.length
  · exfalso
    have h1 := endI_at (dep := dep l) (n := l.length) (i := 0) (by omega) c
    have h2 := dep_step h (i := endI (dep l) l.length 0) (by omega) c
    have h3 := dep_zero h
    omega
  · omega
theorem treeText_sub {l : List S65} (h : treeP (lab l) (dep l) l.length) : subText (lab l) (dep l) l.length 0 = treeText l := by
  unfold subText treeText
  rw [if_pos (treeB_iff.2 h), end_first h, dep_zero h, Int.sub_zero]

/-! spec_TreeText -/
theorem spec_TreeText_l2 (l : List S65) (hl : l.length ≤ 1048576) (ht : treeP (lab l) (dep l) l.length) (m : Nat) : ∀ (d : Nat) (s : ByteArray), (d : Int) + m = dep l (l.length - 1) → s.size ≤ 1000 + d → Ev (fun k => spec_TreeText.l2 k l s d) (s ++ closeN m) := by
  have hn := ht.1
  have c0 : (l.length : Int) > 0 := by omega
  have e1 : wrap64 ((l.length : Int) - 1) = ((l.length - 1 : Nat) : Int) := by rw [w64 (by omega) (by omega)]; omega
  have c1 : (0 : Int) ≤ ((l.length - 1 : Nat) : Int) := Int.natCast_nonneg _
  have c2 : ((l.length - 1 : Nat) : Int) < (l.length : Int) := by omega
  have hT := treeB_iff.2 ht
  have hr := dep_all ht (l.length - 1)
  induction m with
  | zero =>
    intro d s hd hs
    have c3 : ¬ ((d : Int) < dep l (l.length - 1)) := by omega
    refine Ev.step (fun k => by rw [spec_TreeText.l2, if_pos c0]) ?_
    refine Ev.bind (spec_TreeOk_ev l hl) ?_
    simp only [if_pos hT, e1, if_pos c1, if_pos c2, rdN, if_neg c3]
    exact evSome (app_nil s).symm
  | succ m ih =>
    intro d s hd hs
    have c3 : (d : Int) < dep l (l.length - 1) := by omega
    have c4 : s.size + 1 ≤ 9223372036854775807 := by omega
    have e4 : wrap64 ((d : Int) + 1) = ((d + 1 : Nat) : Int) := by rw [w64 (by omega) (by omega)]; rfl
    refine Ev.step (fun k => by rw [spec_TreeText.l2, if_pos c0]) ?_
    refine Ev.bind (spec_TreeOk_ev l hl) ?_
    simp only [if_pos hT, e1, if_pos c1, if_pos c2, rdN, if_pos c3, if_pos c4, e4]
    have := ih (d + 1) (s ++ ⟨#[41]⟩) (by omega) (by rw [ByteArray.size_append]; have : (⟨#[41]⟩ : ByteArray).size = 1 := rfl; omega)
    rw [ByteArray.append_assoc, close_comm] at this
    exact this
theorem spec_TreeText_l1 (l : List S65) (i : Nat) (h0 : 0 < i) (hi : i < l.length) (hl : l.length ≤ 1048576) (v : Int) (hv : (l.getD (i - 1) z65).f1 = v) (hv2 : 0 ≤ v ∧ v ≤ 12) (u : Int) (hu : (l.getD i z65).f1 = u) (nm : ByteArray) (hn : spec_LabelName.f (l.getD i z65).f0 = some nm) (hnm : nm.size ≤ 3) (r : ByteArray) (m : Nat) : ∀ (d : Nat) (s : ByteArray), d ≤ 20 → m = (v + 1 - (d : Int)).toNat → s.size ≤ 1000 + d →
    Ev (fun k => spec_TreeText.l0 k l (s ++ (closeN (v - (d : Int)).toNat ++ ((if u > v then (⟨#[40]⟩ : ByteArray) else ⟨#[32]⟩) ++ nm))) ((i + 1 : Nat) : Int)) r → Ev (fun k => spec_TreeText.l1 k l s i d) r := by
  have e1 : wrap64 ((i : Int) - 1) = ((i - 1 : Nat) : Int) := by rw [w64 (by omega) (by omega)]; omega
  have e2 : wrap64 ((i : Int) + 1) = ((i + 1 : Nat) : Int) := by rw [w64 (by omega) (by omega)]; rfl
  have c1 : (0 : Int) ≤ ((i - 1 : Nat) : Int) := Int.natCast_nonneg _
  have c2 : ((i - 1 : Nat) : Int) < (l.length : Int) := by clear e1 e2; omega
  have c3 : (0 : Int) ≤ (i : Int) := Int.natCast_nonneg _
  have c4 : (i : Int) < (l.length : Int) := by clear e1 e2; omega
  have h1 : (⟨#[41]⟩ : ByteArray).size = 1 := rfl
  induction m with
  | zero =>
    intro d s h20 hd hs hK
    have c5 : ¬ ((d : Int) ≤ v) := by clear hK e1 e2; omega
    have c6 : s.size + 1 ≤ 9223372036854775807 := by clear hK e1 e2; omega
    have z0 : (v - (d : Int)).toNat = 0 := by clear hK e1 e2; omega
    rw [z0] at hK
    simp only [closeN] at hK
    rw [nil_app] at hK
    have hh : ∀ x : ByteArray, x.size = 1 → (s ++ x).size + nm.size ≤ 9223372036854775807 := fun x hx => by
      clear hK e1 e2
      rw [ByteArray.size_append]; omega
    by_cases c7 : u > v
    · rw [if_pos c7, ← ByteArray.append_assoc] at hK
      refine Ev.step (fun k => by rw [spec_TreeText.l1, e1, if_pos c1, if_pos c2, rdN, hv, if_neg c5, if_pos c3, if_pos c4, rdN, hu, if_pos c7, if_pos c6, hn, Option.bind_some, if_pos (hh _ rfl), e2]) ?_
      exact hK
    · rw [if_neg c7, ← ByteArray.append_assoc] at hK
      refine Ev.step (fun k => by rw [spec_TreeText.l1, e1, if_pos c1, if_pos c2, rdN, hv, if_neg c5, if_pos c3, if_pos c4, rdN, hu, if_neg c7, if_pos c6, hn, Option.bind_some, if_pos (hh _ rfl), e2]) ?_
      exact hK
  | succ m ih =>
    intro d s h20 hd hs hK
    have c5 : (d : Int) ≤ v := by clear hK e1 e2 ih; omega
    have c6 : s.size + 1 ≤ 9223372036854775807 := by clear hK e1 e2 ih; omega
    have hd1 : d + 1 ≤ 20 := by clear hK e1 e2 ih; omega
    have hd2 : m = (v + 1 - ((d + 1 : Nat) : Int)).toNat := by clear hK e1 e2 ih; omega
    have hs1 : (s ++ (⟨#[41]⟩ : ByteArray)).size ≤ 1000 + (d + 1) := by clear hK e1 e2 ih; rw [ByteArray.size_append]; omega
    have hs2 : s.size ≤ 1000 + (d + 1) := by clear hK e1 e2 ih; omega
    have ht1 : (d : Int) < v → (v - (d : Int)).toNat = (v - ((d + 1 : Nat) : Int)).toNat + 1 := by clear hK e1 e2 ih; omega
    have ht2 : ¬ (d : Int) < v → (v - (d : Int)).toNat = (v - ((d + 1 : Nat) : Int)).toNat := by clear hK e1 e2 ih; omega
    have e4 : wrap64 ((d : Int) + 1) = ((d + 1 : Nat) : Int) := by clear hK e1 e2 ih; rw [w64 (by omega) (by omega)]; rfl
    by_cases c7 : (d : Int) < v
    · refine Ev.step (fun k => by rw [spec_TreeText.l1, e1, if_pos c1, if_pos c2, rdN, hv, if_pos c5, if_pos c7, if_pos c6, e4]) ?_
      refine ih (d + 1) (s ++ ⟨#[41]⟩) hd1 hd2 hs1 ?_
      rw [ht1 c7] at hK
      simp only [closeN] at hK
      rw [← close_comm] at hK
      simp only [ByteArray.append_assoc] at hK ⊢
      exact hK
    · refine Ev.step (fun k => by rw [spec_TreeText.l1, e1, if_pos c1, if_pos c2, rdN, hv, if_pos c5, if_neg c7, e4]) ?_
      refine ih (d + 1) s hd1 hd2 hs2 ?_
      rw [ht2 c7] at hK
      exact hK
theorem spec_TreeText_l0 (l : List S65) (hl : l.length ≤ 1048576) (ht : treeP (lab l) (dep l) l.length) (d : Nat) : ∀ (i : Nat) (s : ByteArray), 0 < i → i + d = l.length → s.size ≤ 20 * i →
    Ev (fun k => spec_TreeText.l0 k l s i) (s ++ (textTo (lab l) (dep l) i l.length ++ closeN (dep l (l.length - 1)).toNat)) := by
  have hn := ht.1
  have hT := treeB_iff.2 ht
  induction d with
  | zero =>
    intro i s h0 hi hs
    have c0 : ¬ ((i : Int) < (l.length : Int)) := by omega
    have hr := dep_all ht (l.length - 1)
    refine Ev.step (fun k => by rw [spec_TreeText.l0, if_neg c0]) ?_
    refine Ev.step (fun k => by rw [spec_TreeText.j1]) ?_
    simp only [Bool.false_eq_true, if_false]
    rw [show i = l.length by omega, textTo_nil, nil_app]
    have := spec_TreeText_l2 l hl ht (dep l (l.length - 1)).toNat 0 s (by omega) (by omega)
    exact this
  | succ d ih =>
    intro i s h0 hi hs
    have c0 : (i : Int) < (l.length : Int) := by omega
    have c1 : (i : Int) > 0 := by omega
    have c2 : (0 : Int) ≤ (i : Int) := by omega
    have hr := dep_all ht i
    have hr1 := dep_all ht (i - 1)
    refine Ev.step (fun k => by rw [spec_TreeText.l0, if_pos c0]) ?_
    refine Ev.bind (spec_TreeOk_ev l hl) ?_
    refine Ev.step (fun k => by rw [spec_TreeText.j1, if_pos hT, if_pos c1, if_pos c2, if_pos c0, rdN]) ?_
    obtain ⟨q, hq⟩ := Int.eq_ofNat_of_zero_le hr.1
    show Ev (fun k => spec_TreeText.l1 k l s i (dep l i)) _
    rw [hq]
    refine spec_TreeText_l1 l i h0 (by omega) hl (dep l (i - 1)) rfl hr1 (dep l i) rfl (nameB (lab l i)) (spec_LabelName_eq _) (nameB_size _) _ _ q s (by omega) rfl (by omega) ?_
    rw [← hq]
    have e : closeN (dep l (i - 1) - dep l i).toNat ++ ((if dep l i > dep l (i - 1) then (⟨#[40]⟩ : ByteArray) else ⟨#[32]⟩) ++ nameB (lab l i)) = sepB (dep l) i ++ nameB (lab l i) := by
      unfold sepB; rw [ByteArray.append_assoc]
    rw [e, textTo_cons (lab l) (dep l) i l.length (by omega)]
    have hsz : (s ++ (sepB (dep l) i ++ nameB (lab l i))).size ≤ 20 * (i + 1) := by
      have h1 := nameB_size (lab l i)
      have h2 : (sepB (dep l) i).size ≤ 13 := by
        unfold sepB
        rw [ByteArray.size_append, closeN_size]
        have : (if dep l i > dep l (i - 1) then (⟨#[40]⟩ : ByteArray) else ⟨#[32]⟩).size = 1 := by split <;> rfl
        omega
      rw [ByteArray.size_append, ByteArray.size_append]; omega
    have := ih (i + 1) (s ++ (sepB (dep l) i ++ nameB (lab l i))) (by omega) (by omega) hsz
    simp only [ByteArray.append_assoc] at this ⊢
    exact this
theorem spec_TreeText_ev (l : List S65) (hl : l.length ≤ 1048576) : Ev (fun k => spec_TreeText.f k l) (treeText l) := by
  unfold spec_TreeText.f treeText
  by_cases h : treeB (lab l) (dep l) l.length = true
  · have ht := treeB_iff.1 h
    have hn := ht.1
    rw [if_pos h]
    have c0 : (0 : Int) < (l.length : Int) := by omega
    have c1 : ¬ ((0 : Int) > 0) := by omega
    have c3 : (⟨#[]⟩ : ByteArray).size + (nameS (lab l 0)).size ≤ 9223372036854775807 := by
      have h1 : (nameS (lab l 0)).size ≤ 3 := nameB_size (lab l 0)
      have h2 : (⟨#[]⟩ : ByteArray).size = 0 := rfl
      omega
    have e0 : rd_T65 l 0 = l.getD 0 z65 := rdN l 0
    have e1 : wrap64 ((0 : Int) + 1) = ((1 : Nat) : Int) := by rw [w64 (by omega) (by omega)]; rfl
    refine Ev.step (fun k => by rw [spec_TreeText.l0, if_pos c0]) ?_
    refine Ev.bind (spec_TreeOk_ev l hl) ?_
    refine Ev.step (fun k => by rw [spec_TreeText.j1, if_pos h, if_neg c1, if_pos (Int.le_refl 0), if_pos c0, e0, spec_LabelName_eq, Option.bind_some, if_pos c3, e1]) ?_
    have := spec_TreeText_l0 l hl ht (l.length - 1) 1 (⟨#[]⟩ ++ nameB (lab l 0)) (by omega) (by omega) (by rw [nil_app]; have := nameB_size (lab l 0); omega)
    rw [nil_app] at this
    show Ev (fun k => spec_TreeText.l0 k l ((⟨#[]⟩ : ByteArray) ++ nameS (lab l 0)) ((1 : Nat) : Int)) _
    rw [nil_app]
    exact this
  · rw [if_neg h]
    have hl2 : Ev (fun k => spec_TreeText.l2 k l ⟨#[]⟩ 0) ⟨#[]⟩ := by
      by_cases c : (l.length : Int) > 0
      · refine Ev.step (fun k => by rw [spec_TreeText.l2, if_pos c]) ?_
        refine Ev.bind (spec_TreeOk_ev l hl) ?_
        simp only [if_neg h]; exact Ev.now _
      · exact Ev.step (f := fun _ => some (⟨#[]⟩ : ByteArray)) (fun k => by rw [spec_TreeText.l2, if_neg c]) (Ev.now _)
    by_cases c : (0 : Int) < (l.length : Int)
    · refine Ev.step (fun k => by rw [spec_TreeText.l0, if_pos c]) ?_
      refine Ev.bind (spec_TreeOk_ev l hl) ?_
      refine Ev.step (fun k => by rw [spec_TreeText.j1, if_neg h]) ?_
      exact hl2
    · refine Ev.step (fun k => by rw [spec_TreeText.l0, if_neg c]) ?_
      refine Ev.step (fun k => by rw [spec_TreeText.j1]) ?_
      simp only [Bool.false_eq_true, if_false]
      exact hl2

/-! spec_LabelOf -/
/-- The first label, from j on, that bears the name s. -/
def ofGo (s : ByteArray) : Nat → Nat → Int
  | 0, _ => -1
  | d + 1, j => if (nameS (j : Int)).toList = s.toList then (j : Int) else ofGo s d (j + 1)
def labelT (s : ByteArray) : Int := ofGo s 6 0

theorem spec_LabelOf_l0 (s : ByteArray) (d : Nat) : ∀ j : Nat, j + d = 6 → Ev (fun k => spec_LabelOf.l0 k s j) (ofGo s d j) := by
  induction d with
  | zero =>
    intro j hj
    exact Ev.step (f := fun _ => some (-1)) (fun k => by simp only [spec_LabelOf.l0]; rw [if_neg (by omega)]) (Ev.now _)
  | succ d ih =>
    intro j hj
    have c1 : (j : Int) < 6 := by omega
    have e4 : wrap64 ((j : Int) + 1) = ((j + 1 : Nat) : Int) := by rw [w64 (by omega) (by omega)]; rfl
    refine Ev.step (fun k => by simp only [spec_LabelOf.l0]; rw [if_pos c1, e4]) ?_
    simp only [spec_LabelName_eq, Option.bind_some, ofGo]
    by_cases h : (nameS (j : Int)).toList = s.toList
    · simp only [if_pos h]; exact Ev.now _
    · simp only [if_neg h]; exact ih (j + 1) (by omega)
theorem spec_LabelOf_ev (s : ByteArray) : Ev (fun k => spec_LabelOf.f k s) (labelT s) := spec_LabelOf_l0 s 6 0 rfl

/-- A byte that stands between names. -/
def spcP (c : Int) : Prop := c = 40 ∨ c = 41 ∨ c = 32
instance (c : Int) : Decidable (spcP c) := by unfold spcP; infer_instance
def dltI (c : Int) : Int := if c = 40 then 1 else if c = 41 then -1 else 0
def flushN (w : List Int) (dp : Int) (rest : List S65) : List S65 := if w = [] then rest else ⟨labelT (strOfNums w), dp⟩ :: rest
/-- The nodes that a text names: w is what stands of a name. -/
def scanN : List Int → Int → List Int → List S65
  | [], dp, w => flushN w dp []
  | c :: t, dp, w => if spcP c then flushN w dp (scanN t (dp + dltI c) []) else scanN t dp (w ++ [c])
/-- How many bytes stand ahead of the first that is none of a name. -/
def wordLen : List Int → Nat
  | [] => 0
  | c :: t => if spcP c then 0 else wordLen t + 1
theorem wordLen_le : ∀ L : List Int, wordLen L ≤ L.length
  | [] => Nat.le_refl _
  | c :: t => by
    simp only [wordLen]
    split
    · exact Nat.zero_le _
    · have := wordLen_le t; simp only [List.length_cons]; omega
theorem scan_word : ∀ (L : List Int) (dp : Int) (w : List Int), scanN L dp w = flushN (w ++ L.take (wordLen L)) dp (scanN (L.drop (wordLen L)) dp [])
  | [], dp, w => by simp [scanN, wordLen, flushN]
  | c :: t, dp, w => by
    simp only [scanN, wordLen]
    by_cases h : spcP c
    · rw [if_pos h, if_pos h]
      simp only [List.take_zero, List.append_nil, List.drop_zero, scanN]
      rw [if_pos h]
      simp [flushN]
    · rw [if_neg h, if_neg h, scan_word t dp (w ++ [c])]
      simp [List.append_assoc]
theorem scan_take (L : List Int) (dp : Int) (h : 0 < wordLen L) : scanN L dp [] = ⟨labelT (strOfNums (L.take (wordLen L))), dp⟩ :: scanN (L.drop (wordLen L)) dp [] := by
  rw [scan_word L dp [], List.nil_append]
  unfold flushN
  have := wordLen_le L
  rw [if_neg (fun e => by have h2 := congrArg List.length e; rw [List.length_take, List.length_nil] at h2; omega)]
theorem scan_sep (c : Int) (t : List Int) (dp : Int) (h : wordLen (c :: t) = 0) : scanN (c :: t) dp [] = scanN t (dp + dltI c) [] := by
  simp only [wordLen] at h
  by_cases hc : spcP c
  · simp only [scanN]; rw [if_pos hc]; simp [flushN]
  · rw [if_neg hc] at h; omega
/-- What ReadTree gives. -/
def readT (s : ByteArray) : List S65 × Bool :=
  if treeB (lab (scanN (bytesOf s) 0 [])) (dep (scanN (bytesOf s) 0 [])) (scanN (bytesOf s) 0 []).length = true ∧ treeText (scanN (bytesOf s) 0 []) = s then (scanN (bytesOf s) 0 [], true) else ([], false)

/-! spec_ReadTree -/
theorem toList_nilR (s : ByteArray) : s.toList = ([] : List UInt8) ↔ s.size = 0 := by
  rw [toList_data]
  constructor
  · intro h; show s.data.size = 0; rw [← Array.length_toList, h]; rfl
  · intro h; exact List.length_eq_zero_iff.1 (by rw [Array.length_toList]; exact h)
theorem toList_eqR (a b : ByteArray) : a.toList = b.toList ↔ a = b := by
  rw [toList_data, toList_data]
  constructor
  · intro h
    cases a; cases b
    exact congrArg ByteArray.mk (Array.toList_inj.1 h)
  · intro h; rw [h]
def finR (s : ByteArray) (out : List S65) : List S65 × Bool := if treeB (lab out) (dep out) out.length = true ∧ treeText out = s then (out, true) else ([], false)
theorem readT_fin (s : ByteArray) : readT s = finR s (scanN (bytesOf s) 0 []) := rfl
theorem flush_app (w : List Int) (dp : Int) (rest : List S65) : flushN w dp rest = flushN w dp [] ++ rest := by
  unfold flushN; by_cases h : w = []
  · rw [if_pos h, if_pos h]; rfl
  · rw [if_neg h, if_neg h]; rfl
theorem flush_len (w : List Int) (dp : Int) : (flushN w dp ([] : List S65)).length ≤ 1 := by
  unfold flushN; split <;> simp
theorem flush_none (dp : Int) : flushN (bytesOf ⟨#[]⟩) dp ([] : List S65) = [] := if_pos rfl
theorem spec_ReadTree_end (s : ByteArray) (out : List S65) (dp : Int) (wd : ByteArray) (hl : out.length ≤ 1048576) : Ev (fun k => spec_ReadTree.l0 k s out dp wd ((s.size : Int) + 1)) (finR s out) := by
  refine Ev.step (fun k => by rw [spec_ReadTree.l0, if_neg (show ¬ ((s.size : Int) + 1 ≤ (s.size : Int)) by omega)]) ?_
  refine Ev.bind (spec_TreeOk_ev out hl) ?_
  unfold finR
  by_cases h1 : treeB (lab out) (dep out) out.length = true
  · simp only [if_pos h1]
    refine Ev.bind (spec_TreeText_ev out hl) ?_
    by_cases h2 : treeText out = s
    · simp only [if_pos ((toList_eqR _ _).2 h2), if_pos (show _ ∧ _ from ⟨h1, h2⟩)]; exact Ev.now _
    · simp only [if_neg (fun h => h2 ((toList_eqR _ _).1 h)), if_neg (show ¬ (_ ∧ _) from fun h => h2 h.2)]; exact Ev.now _
  · simp only [if_neg h1, if_neg (show ¬ (_ ∧ _) from fun h => h1 h.1)]; exact Ev.now _
theorem spec_ReadTree_flush (s : ByteArray) (acc : List S65) (dp : Int) (wd : ByteArray) (i : Int) (r : List S65 × Bool) (hl : acc.length < 8796093022208) (h : Ev (fun k => spec_ReadTree.j2 k s (acc ++ flushN (bytesOf wd) dp []) dp i) r) : Ev (fun k => spec_ReadTree.j1 k s acc dp wd i false) r := by
  refine Ev.step (fun k => by rw [spec_ReadTree.j1]) ?_
  simp only [Bool.false_eq_true, if_false]
  by_cases c : wd.toList = ([] : List UInt8)
  · simp only [if_pos c]
    have hb : bytesOf wd = [] := List.length_eq_zero_iff.1 (by rw [bytesOf_len]; exact (toList_nilR wd).1 c)
    rw [hb] at h
    have e : flushN ([] : List Int) dp ([] : List S65) = [] := if_pos rfl
    rw [e, List.append_nil] at h
    exact h
  · simp only [if_neg c]
    have hb : ¬ bytesOf wd = [] := fun e => c ((toList_nilR wd).2 (by rw [← bytesOf_len, e]; rfl))
    have e : flushN (bytesOf wd) dp ([] : List S65) = [⟨labelT wd, dp⟩] := by
      unfold flushN; rw [if_neg hb, strOf_bytesOf]
    rw [e] at h
    refine Ev.bind (spec_LabelOf_ev wd) ?_
    simp only [if_pos hl]
    exact h
theorem spec_ReadTree_sep (s : ByteArray) (acc : List S65) (dp : Int) (i : Nat) (hi : i < s.size) (hs : s.size ≤ 1048576) (hd : -1048577 ≤ dp ∧ dp ≤ 1048577) (r : List S65 × Bool) (h : Ev (fun k => spec_ReadTree.l0 k s acc (dp + dltI (bt s (i : Int))) ⟨#[]⟩ ((i + 1 : Nat) : Int)) r) : Ev (fun k => spec_ReadTree.j2 k s acc dp i) r := by
  have c1 : (i : Int) < (s.size : Int) := by omega
  have c2 : (0 : Int) ≤ (i : Int) := by omega
  have e1 : wrap64 ((i : Int) + 1) = ((i + 1 : Nat) : Int) := by rw [w64 (by omega) (by omega)]; rfl
  have e2 : wrap64 (dp + 1) = dp + 1 := w64 (by omega) (by omega)
  have e3 : wrap64 (dp - 1) = dp - 1 := w64 (by omega) (by omega)
  refine Ev.step (fun k => by rw [spec_ReadTree.j2, if_pos c1, if_pos c2]) ?_
  refine Ev.step (fun k => by rw [spec_ReadTree.j3, e1]) ?_
  generalize bt s (i : Int) = c at *
  simp only [if_pos c1, if_pos c2, e2, e3]
  by_cases h4 : c = 40
  · subst h4
    have e : dltI 40 = 1 := rfl
    rw [e] at h
    simp only [beq_self_eq_true, if_true, if_neg (show ¬ ((40 : Int) = 41) by omega)]
    exact h
  · have hb : (c == 40) = false := beq_eq_false_iff_ne.2 h4
    simp only [hb, Bool.false_eq_true, if_false]
    by_cases h5 : c = 41
    · subst h5
      have e : dltI 41 = -1 := rfl
      rw [e] at h
      simp only [if_true]
      exact h
    · have e : dltI c = 0 := by unfold dltI; rw [if_neg h4, if_neg h5]
      rw [e, Int.add_zero] at h
      simp only [if_neg h5]
      exact h
theorem spec_ReadTree_last (s : ByteArray) (acc : List S65) (dp : Int) (hs : s.size ≤ 1048576) (r : List S65 × Bool) (h : Ev (fun k => spec_ReadTree.l0 k s acc dp ⟨#[]⟩ ((s.size : Int) + 1)) r) : Ev (fun k => spec_ReadTree.j2 k s acc dp (s.size : Int)) r := by
  have c1 : ¬ ((s.size : Int) < (s.size : Int)) := by omega
  have e1 : wrap64 ((s.size : Int) + 1) = (s.size : Int) + 1 := w64 (by omega) (by omega)
  refine Ev.step (fun k => by rw [spec_ReadTree.j2, if_neg c1]) ?_
  refine Ev.step (fun k => by rw [spec_ReadTree.j3, e1]) ?_
  simp only [Bool.false_eq_true, if_false, if_neg c1]
  exact h
theorem one_byte (s : ByteArray) (i : Nat) (hi : i < s.size) : bytesOf (s.extract i (i + 1)) = [bt s (i : Int)] := by
  rw [bytesOf_extract, List.drop_take, drop_bytes s i hi, Nat.add_sub_cancel_left]; rfl
theorem dlt_range (c : Int) : -1 ≤ dltI c ∧ dltI c ≤ 1 := by unfold dltI; split <;> (try split) <;> omega
theorem spec_ReadTree_l0 (s : ByteArray) (hs : s.size ≤ 1048576) (d : Nat) : ∀ (i : Nat) (acc : List S65) (dp : Int) (wd : ByteArray), i + d = s.size → acc.length + (flushN (bytesOf wd) dp ([] : List S65)).length ≤ i → -(i : Int) ≤ dp ∧ dp ≤ (i : Int) → wd.size ≤ i → Ev (fun k => spec_ReadTree.l0 k s acc dp wd i) (finR s (acc ++ scanN ((bytesOf s).drop i) dp (bytesOf wd))) := by
  induction d with
  | zero =>
    intro i acc dp wd hi ha hd hw
    obtain rfl : i = s.size := by omega
    have c1 : ¬ ((s.size : Int) < (s.size : Int)) := by omega
    refine Ev.step (fun k => by rw [spec_ReadTree.l0, if_pos (show (s.size : Int) ≤ (s.size : Int) by omega), if_neg c1]) ?_
    rw [drop_bytes_end s s.size (Nat.le_refl _)]
    simp only [scanN]
    refine spec_ReadTree_flush s acc dp wd _ _ (by omega) (spec_ReadTree_last s _ dp hs _ (spec_ReadTree_end s _ dp _ ?_))
    rw [List.length_append]; omega
  | succ d ih =>
    intro i acc dp wd hi ha hd hw
    have hlt : i < s.size := by omega
    have c0 : (i : Int) ≤ (s.size : Int) := by omega
    have c1 : (i : Int) < (s.size : Int) := by omega
    have c2 : (0 : Int) ≤ (i : Int) := by omega
    have e1 : wrap64 ((i : Int) + 1) = ((i + 1 : Nat) : Int) := by rw [w64 (by omega) (by omega)]; rfl
    have hdl := dlt_range (bt s (i : Int))
    have hfl := flush_len (bytesOf wd) dp
    rw [drop_bytes s i hlt]
    have sep : spcP (bt s (i : Int)) → Ev (fun k => spec_ReadTree.j1 k s acc dp wd i false) (finR s (acc ++ scanN (bt s (i : Int) :: (bytesOf s).drop (i + 1)) dp (bytesOf wd))) := by
      intro hc
      have hn := ih (i + 1) (acc ++ flushN (bytesOf wd) dp []) (dp + dltI (bt s (i : Int))) ⟨#[]⟩ (by omega) (by rw [flush_none, List.length_append, List.length_nil]; omega) (by omega) (Nat.zero_le _)
      have e : acc ++ scanN (bt s (i : Int) :: (bytesOf s).drop (i + 1)) dp (bytesOf wd) = (acc ++ flushN (bytesOf wd) dp []) ++ scanN ((bytesOf s).drop (i + 1)) (dp + dltI (bt s (i : Int))) (bytesOf ⟨#[]⟩) := by
        have e0 : bytesOf ⟨#[]⟩ = [] := rfl
        simp only [scanN]
        rw [if_pos hc, flush_app, List.append_assoc, e0]
      rw [e]
      exact spec_ReadTree_flush s acc dp wd i _ (by omega) (spec_ReadTree_sep s _ dp i hlt hs (by omega) _ hn)
    refine Ev.step (fun k => by rw [spec_ReadTree.l0, if_pos c0, if_pos c1, if_pos c2]) ?_
    by_cases h4 : bt s (i : Int) = 40
    · simp only [if_pos h4]
      exact sep (Or.inl h4)
    · simp only [if_neg h4]
      by_cases h5 : bt s (i : Int) = 41
      · simp only [if_pos h5]
        exact sep (Or.inr (Or.inl h5))
      · simp only [if_neg h5]
        by_cases h6 : bt s (i : Int) = 32
        · have hb : (bt s (i : Int) != 32) = false := bne_eq_false_iff_eq.2 h6
          simp only [hb]
          exact sep (Or.inr (Or.inr h6))
        · have hb : (bt s (i : Int) != 32) = true := bne_iff_ne.2 h6
          have hx : (s.extract i (i + 1)).size = 1 := by rw [← bytesOf_len, one_byte s i hlt]; rfl
          have hf2 := flush_len (bytesOf (wd ++ s.extract i (i + 1))) dp
          have hn := ih (i + 1) acc dp (wd ++ s.extract i (i + 1)) (by omega) (by omega) (by omega) (by rw [ByteArray.size_append]; omega)
          rw [bytesOf_append, one_byte s i hlt] at hn
          have e : scanN (bt s (i : Int) :: (bytesOf s).drop (i + 1)) dp (bytesOf wd) = scanN ((bytesOf s).drop (i + 1)) dp (bytesOf wd ++ [bt s (i : Int)]) := by
            simp only [scanN]
            rw [if_neg (fun h => by rcases h with h | h | h <;> omega)]
          rw [e]
          simp only [hb]
          refine Ev.step (fun k => by rw [spec_ReadTree.j1, e1]) ?_
          simp only [if_true, if_pos c2, Int.toNat_natCast, if_pos (show (i : Int) ≤ ((i + 1 : Nat) : Int) by omega), if_pos (show ((i + 1 : Nat) : Int) ≤ (s.size : Int) by omega), if_pos (show wd.size + (s.extract i (i + 1)).size ≤ 9223372036854775807 by omega)]
          exact hn
theorem spec_ReadTree_ev (s : ByteArray) (hs : s.size ≤ 1048576) : Ev (fun k => spec_ReadTree.f k s) (readT s) := by
  rw [readT_fin]
  exact spec_ReadTree_l0 s hs s.size 0 [] 0 ⟨#[]⟩ (by omega) (by rw [flush_none]; exact Nat.le_refl _) (by omega) (Nat.zero_le _)

/-! impl_within -/
theorem impl_within_eq (a b c : Int) : impl_within.f a b c = some (decide (b ≤ a ∧ a ≤ c)) := by
  unfold impl_within.f
  by_cases h : b ≤ a
  · rw [if_pos h]; simp [h]
  · rw [if_neg h]; simp [h]

/-! impl_LabelOk -/
theorem impl_LabelOk_eq (a : Int) : impl_LabelOk.f a = some (decide (0 ≤ a ∧ a ≤ 5)) := by
  unfold impl_LabelOk.f; simp only [impl_within_eq, Option.bind_some]

/-! impl_depthOk -/
theorem impl_depthOk_eq (l : List S65) (i : Nat) (hi : i < l.length) (hl : l.length ≤ 1048576) (hp : 0 < i → -1 ≤ dep l (i - 1) ∧ dep l (i - 1) ≤ 12) :
    impl_depthOk.f l (i : Int) = some (decide ((i = 0 → dep l i = 0) ∧ (0 < i → 1 ≤ dep l i ∧ dep l i ≤ dep l (i - 1) + 1))) := by
  unfold impl_depthOk.f
  by_cases h0 : i = 0
  · subst h0
    rw [if_pos (show ((0 : Nat) : Int) = 0 by rfl), if_pos (by omega)]
    have : rd_T65 l 0 = l.getD 0 z65 := rdN l 0
    rw [this]
    congr 1
    by_cases hz : dep l 0 = 0
    · rw [decide_eq_true ⟨fun _ => hz, fun h => by omega⟩]; show (dep l 0 == 0) = true; rw [hz]; rfl
    · rw [decide_eq_false (fun h => hz (h.1 rfl))]; show (dep l 0 == 0) = false; exact beq_eq_false_iff_ne.mpr hz
  · have hp := hp (by omega)
    have c3 : ¬ ((i : Int) = 0) := by omega
    have c4 : (0 : Int) ≤ (i : Int) := by omega
    have c5 : (i : Int) < (l.length : Int) := by omega
    have c6 : (0 : Int) ≤ ((i - 1 : Nat) : Int) := by omega
    have c7 : ((i - 1 : Nat) : Int) < (l.length : Int) := by omega
    have e3 : wrap64 ((i : Int) - 1) = ((i - 1 : Nat) : Int) := by rw [w64 (by omega) (by omega)]; omega
    rw [if_neg c3, if_pos c4, if_pos c5, e3, if_pos c6, if_pos c7, rdN, rdN]
    have e5 : wrap64 (dep l (i - 1) + 1) = dep l (i - 1) + 1 := w64 (by omega) (by omega)
    rw [e5, impl_within_eq]
    simp only [Option.bind_some]
    congr 1
    by_cases hz : 1 ≤ dep l i ∧ dep l i ≤ dep l (i - 1) + 1
    · rw [decide_eq_true hz, decide_eq_true ⟨fun h => absurd h h0, fun _ => hz⟩]
    · rw [decide_eq_false hz, decide_eq_false (fun h => hz (h.2 (by omega)))]

/-! impl_TreeOk -/
theorem impl_TreeOk_l0 (l : List S65) (hl : l.length ≤ 1048576) (hlen : 1 ≤ l.length ∧ l.length ≤ 24) (d : Nat) : ∀ i : Nat, i + d = l.length → (∀ j, j < i → nodeOk (lab l) (dep l) j) → Ev (fun k => impl_TreeOk.l0 k l l l.length i) (treeB (lab l) (dep l) l.length) := by
  induction d with
  | zero =>
    intro i hi hall
    refine Ev.step (fun k => by simp only [impl_TreeOk.l0]; rw [if_neg (by omega)]) ?_
    refine evSome ?_
    have e : i = l.length := by omega
    rw [treeB_all (by rw [← e]; exact hall), decide_eq_true hlen]
  | succ d ih =>
    intro i hi hall
    have hil : i < l.length := by omega
    have c1 : (i : Int) < (l.length : Int) := by omega
    have c2 : (0 : Int) ≤ (i : Int) := by omega
    refine Ev.step (fun k => by simp only [impl_TreeOk.l0]; rw [if_pos c1, if_pos c2, if_pos c1]) ?_
    have hd := impl_depthOk_eq l i hil hl (fun h0 => by
      have hp := hall (i - 1) (by omega)
      have := hp.2.2.1
      exact ⟨by omega, hp.2.2.2.1⟩)
    have e4 : wrap64 ((i : Int) + 1) = ((i + 1 : Nat) : Int) := by rw [w64 (by omega) (by omega)]; rfl
    simp only [impl_LabelOk_eq, impl_within_eq, hd, Option.bind_some, rdN, decide_eq_true_eq, e4]
    by_cases h1 : 0 ≤ lab l i ∧ lab l i ≤ 5
    · simp only [if_pos h1]
      by_cases h2 : 0 ≤ dep l i ∧ dep l i ≤ 12
      · simp only [if_pos h2]
        by_cases h3 : (i = 0 → dep l i = 0) ∧ (0 < i → 1 ≤ dep l i ∧ dep l i ≤ dep l (i - 1) + 1)
        · simp only [if_pos h3]
          refine ih (i + 1) (by omega) (fun j hj => ?_)
          by_cases hji : j < i
          · exact hall j hji
          · have : j = i := by omega
            subst this; exact ⟨h1.1, h1.2, h2.1, h2.2, h3.1, h3.2⟩
        · simp only [if_neg h3]
          exact evSome (treeB_no hil (fun h => h3 ⟨h.2.2.2.2.1, h.2.2.2.2.2⟩)).symm
      · simp only [if_neg h2]
        exact evSome (treeB_no hil (fun h => h2 ⟨h.2.2.1, h.2.2.2.1⟩)).symm
    · simp only [if_neg h1]
      exact evSome (treeB_no hil (fun h => h1 ⟨h.1, h.2.1⟩)).symm
theorem impl_TreeOk_ev (l : List S65) (hl : l.length ≤ 1048576) : Ev (fun k => impl_TreeOk.f k l) (treeB (lab l) (dep l) l.length) := by
  unfold impl_TreeOk.f
  simp only [impl_within_eq, Option.bind_some, decide_eq_true_eq]
  by_cases h : (1 : Int) ≤ (l.length : Int) ∧ (l.length : Int) ≤ 24
  · simp only [if_pos h]
    exact impl_TreeOk_l0 l hl (by omega) l.length 0 (by omega) (fun j hj => by omega)
  · simp only [if_neg h]
    exact evSome (treeB_len (by omega)).symm

/-! impl_endOf -/
theorem impl_endOf_l0 (l : List S65) (hl : l.length ≤ 1048576) (i : Nat) (hi : i < l.length) (d : Nat) : ∀ j : Nat, j + d = l.length → Ev (fun k => impl_endOf.l0 k l i j) ((endGo (dep l) (dep l i) d j : Nat) : Int) := by
  induction d with
  | zero =>
    intro j hj
    exact Ev.step (f := fun _ => some ((j : Nat) : Int)) (fun k => by simp only [impl_endOf.l0]; rw [if_neg (by omega)]) (Ev.now _)
  | succ d ih =>
    intro j hj
    have c1 : (j : Int) < (l.length : Int) := by omega
    have c2 : (0 : Int) ≤ (j : Int) := by omega
    have c3 : (0 : Int) ≤ (i : Int) := by omega
    have c4 : (i : Int) < (l.length : Int) := by omega
    have e4 : wrap64 ((j : Int) + 1) = ((j + 1 : Nat) : Int) := by rw [w64 (by omega) (by omega)]; rfl
    refine Ev.step (fun k => by simp only [impl_endOf.l0]; rw [if_pos c1, if_pos c2, if_pos c3, if_pos c4, e4, rdN, rdN]) ?_
    simp only [endGo]
    by_cases h : dep l j > dep l i
    · simp only [if_pos h]; exact ih (j + 1) (by omega)
    · simp only [if_neg h]; exact Ev.now _

theorem impl_endOf_ev (l : List S65) (hl : l.length ≤ 1048576) (i : Nat) (hi : i < l.length) : Ev (fun k => impl_endOf.f k l i) ((endI (dep l) l.length i : Nat) : Int) := by
  unfold impl_endOf.f
  have e4 : wrap64 ((i : Int) + 1) = ((i + 1 : Nat) : Int) := by rw [w64 (by omega) (by omega)]; rfl
  simp only [e4]
  exact impl_endOf_l0 l hl i hi (l.length - (i + 1)) (i + 1) (by omega)

/-! impl_hasNode -/
theorem impl_hasNode_ev (l : List S65) (hl : l.length ≤ 1048576) (a : Int) : Ev (fun k => impl_hasNode.f k l a) (atB (lab l) (dep l) l.length a) := by
  unfold impl_hasNode.f
  refine Ev.bind (impl_TreeOk_ev l hl) ?_
  have e : wrap64 ((l.length : Int) - 1) = (l.length : Int) - 1 := w64 (by omega) (by omega)
  simp only [impl_within_eq, Option.bind_some, e, atB]
  by_cases h : treeB (lab l) (dep l) l.length = true
  · simp only [h, if_true, Bool.true_and]; exact Ev.now _
  · simp only [Bool.eq_false_iff.mpr h, Bool.false_eq_true, if_false, Bool.false_and]; exact Ev.now _

/-! impl_KidsOf -/
theorem impl_KidsOf_l0 (l : List S65) (hl : l.length ≤ 1048576) (i : Nat) (hat : atB (lab l) (dep l) l.length i = true) (d : Nat) : ∀ (j : Nat) (acc : List Int), j + d = endI (dep l) l.length i → acc.length ≤ j → Ev (fun k => impl_KidsOf.l0 k l i acc j) (acc ++ kidGo (dep l) (dep l i + 1) d j) := by
  obtain ⟨i', hi', hi, ht⟩ := atB_nat hat
  have hii : i' = i := by omega
  rw [hii] at hi
  clear hi' hii
  have hel := endI_le (dep l) l.length i hi
  have hdr := dep_range ht hi
  have e5 : wrap64 (dep l i + 1) = dep l i + 1 := w64 (by omega) (by omega)
  induction d with
  | zero =>
    intro j acc hj ha
    refine Ev.step (fun k => by rw [impl_KidsOf.l0]) ?_
    refine Ev.bind (impl_endOf_ev l hl i hi) ?_
    have c0 : ¬ ((j : Int) < ((endI (dep l) l.length i : Nat) : Int)) := by omega
    simp only [if_neg c0, kidGo, List.append_nil]; exact Ev.now _
  | succ d ih =>
    intro j acc hj ha
    refine Ev.step (fun k => by rw [impl_KidsOf.l0]) ?_
    refine Ev.bind (impl_endOf_ev l hl i hi) ?_
    have c0 : ((j : Int) < ((endI (dep l) l.length i : Nat) : Int)) := by omega
    have c1 : (j : Int) < (l.length : Int) := by omega
    have c2 : (0 : Int) ≤ (j : Int) := by omega
    have c3 : (0 : Int) ≤ (i : Int) := by omega
    have c4 : (i : Int) < (l.length : Int) := by omega
    have e4 : wrap64 ((j : Int) + 1) = ((j + 1 : Nat) : Int) := by rw [w64 (by omega) (by omega)]; rfl
    simp only [if_pos c0, if_pos c2, if_pos c1, if_pos c3, if_pos c4, e4, rdN, e5, kidGo]
    by_cases h : dep l j = dep l i + 1
    · have hl1 : acc.length < 17592186044416 := by omega
      simp only [if_pos h, if_pos hl1]
      have := ih (j + 1) (acc ++ [(j : Int)]) (by omega) (by simp; omega)
      simpa only [List.append_assoc, List.cons_append, List.nil_append] using this
    · simp only [if_neg h]
      exact ih (j + 1) acc (by omega) (by omega)

theorem impl_KidsOf_ev (l : List S65) (hl : l.length ≤ 1048576) (a : Int) : Ev (fun k => impl_KidsOf.f k l a) (if atB (lab l) (dep l) l.length a = true then kidsI (dep l) l.length a.toNat else []) := by
  unfold impl_KidsOf.f
  simp only [Option.bind_some]
  refine Ev.bind (impl_hasNode_ev l hl a) ?_
  by_cases h : atB (lab l) (dep l) l.length a = true
  · obtain ⟨i, rfl, hi, _⟩ := atB_nat h
    have e4 : wrap64 ((i : Int) + 1) = ((i + 1 : Nat) : Int) := by rw [w64 (by omega) (by omega)]; rfl
    have hel := endI_le (dep l) l.length i hi
    simp only [if_pos h, e4, Int.toNat_natCast]
    have := impl_KidsOf_l0 l hl i h (endI (dep l) l.length i - (i + 1)) (i + 1) [] (by omega) (by simp)
    rw [List.nil_append] at this
    exact this
  · simp only [if_neg h]; exact Ev.now _

/-! impl_LabelName -/
theorem impl_LabelName_eq (a : Int) : impl_LabelName.f a = some (nameS a) := rfl

/-! impl_textOf -/
theorem joinS_eq : ∀ l : List ByteArray, joinS ⟨#[32]⟩ l = joinB l
  | [] => rfl
  | [x] => rfl
  | x :: y :: l => by simp only [joinS, joinB]; rw [joinS_eq (y :: l)]
theorem joinB_len : ∀ l : List ByteArray, l.length ≤ l.length := fun _ => Nat.le_refl _
theorem textOf_end (l : List S65) (hl : l.length ≤ 1048576) (ht : treeP (lab l) (dep l) l.length) (i : Nat) (hi : i < l.length) : Ev (fun k => impl_textOf.l0 k l i ((kidsI (dep l) l.length i).map fun x => subText (lab l) (dep l) l.length x.toNat) (kidsI (dep l) l.length i) ((kidsI (dep l) l.length i).length : Int) ((kidsI (dep l) l.length i).length : Int)) (subText (lab l) (dep l) l.length i) := by
  have hn := ht.1
  have hel := endI_le (dep l) l.length i hi
  have hq := subText_eq ht hi
  have hkl : (kidsI (dep l) l.length i).length ≤ 24 := by
    have := kidGo_len (dep l) (dep l i + 1) (endI (dep l) l.length i - (i + 1)) (i + 1)
    unfold kidsI; omega
  have hsz : (subText (lab l) (dep l) l.length i).size ≤ 500 := by
    have h1 := treeText_size ht (i + 1) (endI (dep l) l.length i) hel.2
    have h2 := nameB_size (lab l i)
    have h3 := dep_all ht (endI (dep l) l.length i - 1)
    have h4 := dep_all ht i
    unfold subText
    rw [ByteArray.size_append, ByteArray.size_append, closeN_size]; omega
  have c1 : (0 : Int) ≤ (i : Int) := Int.natCast_nonneg _
  have c2 : (i : Int) < (l.length : Int) := by omega
  refine Ev.step (fun k => by rw [impl_textOf.l0, if_neg (Int.lt_irrefl _), if_pos c1, if_pos c2, rdN, impl_LabelName_eq, Option.bind_some]) ?_
  by_cases h : kidsI (dep l) l.length i = []
  · rw [if_pos h] at hq
    rw [hq, h]
    simp only [List.map_nil, List.length_nil]
    rw [if_neg (by decide)]
    exact evSome rfl
  · rw [if_neg h] at hq
    have hpos : 0 < (kidsI (dep l) l.length i).length := List.length_pos_iff.2 h
    generalize hJ : (kidsI (dep l) l.length i).map (fun x => subText (lab l) (dep l) l.length x.toNat) = J at hq ⊢
    have hJl : J.length = (kidsI (dep l) l.length i).length := by rw [← hJ, List.length_map]
    have c3 : ((J.length : Nat) : Int) > 0 := by omega
    have hs2 : (nameB (lab l i) ++ ((⟨#[40]⟩ ++ joinB J) ++ ⟨#[41]⟩)).size ≤ 500 := by rw [← hq]; exact hsz
    have hs3 : (nameB (lab l i)).size + ((1 + (joinB J).size) + 1) ≤ 500 := by
      rw [ByteArray.size_append, ByteArray.size_append, ByteArray.size_append] at hs2
      exact hs2
    have hf : strings_Join.f J ⟨#[32]⟩ = some (joinB J) := by
      unfold strings_Join.f
      rw [joinS_eq, if_pos ⟨by omega, by omega⟩]
    rw [if_pos c3, hf, Option.bind_some, if_pos (by omega)]
    have e1 : ((⟨#[40]⟩ : ByteArray) ++ joinB J).size = 1 + (joinB J).size := by rw [ByteArray.size_append]; rfl
    have e2 : (((⟨#[40]⟩ : ByteArray) ++ joinB J) ++ (⟨#[41]⟩ : ByteArray)).size = 1 + (joinB J).size + 1 := by rw [ByteArray.size_append, e1]; rfl
    have e3 : (nameS (l.getD i z65).f0).size = (nameB (lab l i)).size := rfl
    rw [e1, if_pos (by omega), e2, e3, if_pos (by omega)]
    exact evSome (by rw [hq]; rfl)
theorem step64 (j : Nat) (h : j ≤ 1000000) : wrap64 ((j : Int) + 1) = ((j + 1 : Nat) : Int) := by rw [w64 (by omega) (by omega)]; rfl
theorem ar1 {a c e n : Nat} (h2 : c < a + (e - a)) (h3 : a ≤ e) (h4 : e ≤ n) : c < e ∧ c < n := by omega
theorem ar2 {i c ec ei d : Nat} (h1 : i + 1 ≤ c) (hm : ec ≤ ei) (hd : ei - i ≤ d + 1) (hcl : c + 1 ≤ ec) : ec - c ≤ d := by omega
theorem impl_textOf_ev (l : List S65) (hl : l.length ≤ 1048576) (ht : treeP (lab l) (dep l) l.length) (d : Nat) : ∀ i : Nat, i < l.length → endI (dep l) l.length i - i ≤ d → Ev (fun k => impl_textOf.f k l i) (subText (lab l) (dep l) l.length i) := by
  have hn := ht.1
  induction d with
  | zero => intro i hi hd; have := endI_le (dep l) l.length i hi; omega
  | succ d ih =>
    intro i hi hd
    have hel := endI_le (dep l) l.length i hi
    have hat : atB (lab l) (dep l) l.length (i : Int) = true := atB_iff.2 ⟨ht, by omega, by omega⟩
    have hkl : (kidsI (dep l) l.length i).length ≤ 24 := by
      have := kidGo_len (dep l) (dep l i + 1) (endI (dep l) l.length i - (i + 1)) (i + 1)
      unfold kidsI; omega
    have loop : ∀ (e j : Nat) (acc : List ByteArray), j + e = (kidsI (dep l) l.length i).length → acc = ((kidsI (dep l) l.length i).take j).map (fun x => subText (lab l) (dep l) l.length x.toNat) →
        Ev (fun k => impl_textOf.l0 k l i acc (kidsI (dep l) l.length i) ((kidsI (dep l) l.length i).length : Int) j) (subText (lab l) (dep l) l.length i) := by
      intro e
      induction e with
      | zero =>
        intro j acc hj ha
        rw [ha, List.take_of_length_le (by omega), show j = (kidsI (dep l) l.length i).length by omega]
        exact textOf_end l hl ht i hi
      | succ e ihe =>
        intro j acc hj ha
        have hjl : j < (kidsI (dep l) l.length i).length := by omega
        have c0 : (j : Int) < ((kidsI (dep l) l.length i).length : Int) := by omega
        have c1 : (0 : Int) ≤ (j : Int) := Int.natCast_nonneg _
        have hmem := List.getElem_mem hjl
        obtain ⟨c, hc, hc1, hc2, hc3⟩ := (kidGo_mem _ _ _ _ _).1 (show (kidsI (dep l) l.length i)[j] ∈ kidGo (dep l) (dep l i + 1) (endI (dep l) l.length i - (i + 1)) (i + 1) from hmem)
        have e1 : rd (kidsI (dep l) l.length i) (j : Int) = (c : Int) := by
          unfold rd
          rw [Int.toNat_natCast, List.getD_eq_getElem?_getD, List.getElem?_eq_getElem hjl, ← hc]; rfl
        have hm := end_mono (dep := dep l) (n := l.length) (i := i) (p := c) hi hc1 (ar1 hc2 hel.1 hel.2).1
        have hcl := endI_le (dep l) l.length c (ar1 hc2 hel.1 hel.2).2
        have e4 : wrap64 ((j : Int) + 1) = ((j + 1 : Nat) : Int) := step64 j (Nat.le_trans (Nat.le_of_lt hjl) (Nat.le_trans hkl (by decide)))
        have hal : acc.length < 8796093022208 := Nat.lt_of_le_of_lt (by rw [ha, List.length_map]; exact Nat.le_trans (List.length_take_le' j _) hkl) (show 24 < 8796093022208 by decide)
        refine Ev.step (fun k => by rw [impl_textOf.l0, if_pos c0, if_pos c1, if_pos c0, e1, e4]) ?_
        refine Ev.bind (ih c (ar1 hc2 hel.1 hel.2).2 (ar2 hc1 hm hd hcl.1)) ?_
        simp only [if_pos hal]
        refine ihe (j + 1) _ (by rw [← hj]; exact Nat.add_right_comm j 1 e) ?_
        rw [ha, List.take_succ_eq_append_getElem hjl, List.map_append, List.map_cons, List.map_nil, hc, Int.toNat_natCast]
    refine Ev.step (fun k => by rw [impl_textOf.f]) ?_
    refine Ev.bind (impl_KidsOf_ev l hl (i : Int)) ?_
    simp only [if_pos hat, Int.toNat_natCast]
    exact loop (kidsI (dep l) l.length i).length 0 [] (by omega) rfl

/-! impl_TreeText -/
theorem impl_TreeText_ev (l : List S65) (hl : l.length ≤ 1048576) : Ev (fun k => impl_TreeText.f k l) (treeText l) := by
  unfold impl_TreeText.f
  refine Ev.bind (impl_TreeOk_ev l hl) ?_
  by_cases h : treeB (lab l) (dep l) l.length = true
  · have ht := treeB_iff.1 h
    simp only [if_pos h]
    have := impl_textOf_ev l hl ht (endI (dep l) l.length 0 - 0) 0 (by have := ht.1; omega) (Nat.le_refl _)
    rw [treeText_sub ht] at this
    exact Ev.bind this (Ev.now _)
  · simp only [if_neg h]
    unfold treeText
    rw [if_neg h]
    exact Ev.now _

/-! impl_LabelOf -/
theorem impl_LabelOf_l0 (s : ByteArray) (d : Nat) : ∀ j : Nat, j + d = 6 → Ev (fun k => impl_LabelOf.l0 k s j) (ofGo s d j) := by
  induction d with
  | zero =>
    intro j hj
    exact Ev.step (f := fun _ => some (-1)) (fun k => by simp only [impl_LabelOf.l0]; rw [if_neg (by omega)]) (Ev.now _)
  | succ d ih =>
    intro j hj
    have c1 : (j : Int) < 6 := by omega
    have e4 : wrap64 ((j : Int) + 1) = ((j + 1 : Nat) : Int) := by rw [w64 (by omega) (by omega)]; rfl
    refine Ev.step (fun k => by simp only [impl_LabelOf.l0]; rw [if_pos c1, e4]) ?_
    simp only [impl_LabelName_eq, Option.bind_some, ofGo]
    by_cases h : (nameS (j : Int)).toList = s.toList
    · simp only [if_pos h]; exact Ev.now _
    · simp only [if_neg h]; exact ih (j + 1) (by omega)
theorem impl_LabelOf_ev (s : ByteArray) : Ev (fun k => impl_LabelOf.f k s) (labelT s) := impl_LabelOf_l0 s 6 0 rfl

/-! impl_ReadTree -/
theorem contains_spc (b : UInt8) : ([40, 32, 41] : List UInt8).contains b = true ↔ spcP (b.toNat : Int) := by
  have key : ∀ n : UInt8, (b = n ↔ (b.toNat : Int) = (n.toNat : Int)) := fun n => ⟨fun h => by rw [h], fun h => UInt8.toNat_inj.1 (by omega)⟩
  have e1 : ((40 : UInt8).toNat : Int) = 40 := rfl
  have e2 : ((32 : UInt8).toNat : Int) = 32 := rfl
  have e3 : ((41 : UInt8).toNat : Int) = 41 := rfl
  rw [List.contains_iff_mem]
  simp only [List.mem_cons, List.not_mem_nil, or_false]
  rw [key 40, key 32, key 41, e1, e2, e3]
  unfold spcP
  constructor <;> intro h <;> omega
theorem any_word : ∀ l : List UInt8, Lib.indexAny l [40, 32, 41] = if wordLen (l.map fun b => (b.toNat : Int)) = l.length then -1 else ((wordLen (l.map fun b => (b.toNat : Int)) : Nat) : Int)
  | [] => rfl
  | b :: l => by
    have ih := any_word l
    simp only [Lib.indexAny, List.map_cons, wordLen, List.length_cons]
    by_cases hc : spcP (b.toNat : Int)
    · rw [if_pos ((contains_spc b).2 hc), if_pos hc, if_neg (by omega)]; rfl
    · rw [if_neg (fun h => hc ((contains_spc b).1 h)), if_neg hc, ih]
      generalize wordLen (l.map fun b => (b.toNat : Int)) = n
      by_cases e : n = l.length
      · rw [if_pos e, if_pos (show n + 1 = l.length + 1 by omega)]; rfl
      · rw [if_neg e, if_neg (show ¬ n + 1 = l.length + 1 by omega), if_neg (show ¬ (((n : Nat) : Int) == -1) = true by rw [beq_iff_eq]; omega)]
        omega
theorem indexAny_eq (T : ByteArray) (hT : T.size ≤ 1048576) : strings_IndexAny.f T ⟨#[40, 32, 41]⟩ = some (if wordLen (bytesOf T) = T.size then -1 else ((wordLen (bytesOf T) : Nat) : Int)) := by
  unfold strings_IndexAny.f
  rw [if_pos ⟨rfl, by omega⟩, any_word]
  have e : T.data.toList.length = T.size := by rw [Array.length_toList]; rfl
  rw [e]; rfl
theorem finR_far (s : ByteArray) (out : List S65) (h : 24 < out.length) : finR s out = ([], false) := if_neg (fun q => by have := (treeB_iff.1 q.1).1; omega)
theorem impl_ReadTree_end (s : ByteArray) (hs : 0 < s.size) (out : List S65) (dp : Int) (T : ByteArray) (hl : out.length ≤ 1048576) : Ev (fun k => impl_ReadTree.j1 k s out dp T false) (finR s out) := by
  refine Ev.step (fun k => by rw [impl_ReadTree.j1]) ?_
  simp only [Bool.false_eq_true, if_false]
  have c : ¬ s.toList = ([] : List UInt8) := fun h => by have := (toList_nilR s).1 h; omega
  simp only [if_neg c]
  refine Ev.bind (impl_TreeText_ev out hl) ?_
  unfold finR
  by_cases h2 : treeText out = s
  · have h1 : treeB (lab out) (dep out) out.length = true := by
      cases hb : treeB (lab out) (dep out) out.length with
      | true => rfl
      | false =>
        exfalso
        unfold treeText at h2
        rw [hb, if_neg (by decide)] at h2
        rw [← h2] at hs
        exact absurd hs (by decide)
    simp only [if_pos ((toList_eqR _ _).2 h2), if_pos (show _ ∧ _ from ⟨h1, h2⟩)]; exact Ev.now _
  · simp only [if_neg (fun h => h2 ((toList_eqR _ _).1 h)), if_neg (show ¬ (_ ∧ _) from fun h => h2 h.2)]; exact Ev.now _
theorem impl_ReadTree_l0 (s : ByteArray) (h0 : 0 < s.size) (hs : s.size ≤ 1048576) (d : Nat) : ∀ (a : Nat) (acc : List S65) (dp : Int), s.size - a ≤ d → a ≤ s.size → acc.length ≤ 25 → -(a : Int) ≤ dp ∧ dp ≤ (a : Int) → Ev (fun k => impl_ReadTree.l0 k s acc dp (s.extract a s.size)) (finR s (acc ++ scanN ((bytesOf s).drop a) dp [])) := by
  induction d with
  | zero =>
    intro a acc dp hi ha hl hd
    obtain rfl : a = s.size := by omega
    have c : (s.extract s.size s.size).toList = ([] : List UInt8) := (toList_nilR _).2 (by rw [tail_size]; omega)
    refine Ev.step (fun k => by rw [impl_ReadTree.l0, if_pos c]) ?_
    rw [drop_bytes_end s s.size (Nat.le_refl _)]
    have e : scanN [] dp [] = ([] : List S65) := by simp only [scanN]; exact if_pos rfl
    rw [e, List.append_nil]
    exact impl_ReadTree_end s h0 acc dp _ (by omega)
  | succ d ih =>
    intro a acc dp hi ha hl hd
    by_cases ea : a = s.size
    · subst ea
      have c : (s.extract s.size s.size).toList = ([] : List UInt8) := (toList_nilR _).2 (by rw [tail_size]; omega)
      refine Ev.step (fun k => by rw [impl_ReadTree.l0, if_pos c]) ?_
      rw [drop_bytes_end s s.size (Nat.le_refl _)]
      have e : scanN [] dp [] = ([] : List S65) := by simp only [scanN]; exact if_pos rfl
      rw [e, List.append_nil]
      exact impl_ReadTree_end s h0 acc dp _ (by omega)
    have hlt : a < s.size := by omega
    have hts : (s.extract a s.size).size = s.size - a := tail_size s a
    have c : ¬ (s.extract a s.size).toList = ([] : List UInt8) := fun h => by have := (toList_nilR _).1 h; omega
    have hbt : bytesOf (s.extract a s.size) = (bytesOf s).drop a := by rw [bytesOf_extract, ← bytesOf_len, List.take_length]
    refine Ev.step (fun k => by rw [impl_ReadTree.l0, if_neg c]) ?_
    by_cases hm : (acc.length : Int) ≤ 24
    · have hdm : decide ((acc.length : Int) ≤ 24) = true := decide_eq_true hm
      rw [hdm]
      refine Ev.step (fun k => by rw [impl_ReadTree.j1]) ?_
      simp only [if_true, indexAny_eq (s.extract a s.size) (by omega), Option.bind_some]
      have hwl := wordLen_le (bytesOf (s.extract a s.size))
      rw [bytesOf_len] at hwl
      have main : Ev (fun k => impl_ReadTree.j2 k s acc dp (s.extract a s.size) ((wordLen (bytesOf (s.extract a s.size)) : Nat) : Int)) (finR s (acc ++ scanN ((bytesOf s).drop a) dp [])) := by
        refine Ev.step (fun k => by rw [impl_ReadTree.j2]) ?_
        by_cases hw : 0 < wordLen (bytesOf (s.extract a s.size))
        · have g1 : ((wordLen (bytesOf (s.extract a s.size)) : Nat) : Int) > 0 := by omega
          have g2 : (0 : Int) ≤ ((wordLen (bytesOf (s.extract a s.size)) : Nat) : Int) := by omega
          have g3 : ((wordLen (bytesOf (s.extract a s.size)) : Nat) : Int) ≤ ((s.extract a s.size).size : Int) := by omega
          simp only [if_pos g1, if_pos g2, if_pos g3, Int.toNat_natCast]
          refine Ev.bind (impl_LabelOf_ev _) ?_
          simp only [if_pos (show acc.length < 8796093022208 by omega)]
          have hsc := scan_take ((bytesOf s).drop a) dp (by rw [← hbt]; exact hw)
          rw [← hbt] at hsc
          have hlab : strOfNums ((bytesOf (s.extract a s.size)).take (wordLen (bytesOf (s.extract a s.size)))) = (s.extract a s.size).extract 0 (wordLen (bytesOf (s.extract a s.size))) := by
            apply bytesOf_inj
            have h1 := bytesOf_extract (s.extract a s.size) 0 (wordLen (bytesOf (s.extract a s.size)))
            rw [bytesOf_strOf (fun x hx => bytesOf_range _ x (List.mem_of_mem_take hx)), h1, List.drop_zero]
          rw [hlab] at hsc
          rw [← hbt, hsc, tail_tail s a _ ha]
          have hn := ih (a + wordLen (bytesOf (s.extract a s.size))) (acc ++ [⟨labelT ((s.extract a s.size).extract 0 (wordLen (bytesOf (s.extract a s.size)))), dp⟩]) dp (by omega) (by omega) (by rw [List.length_append, List.length_singleton]; omega) (by omega)
          rw [← List.drop_drop, ← hbt] at hn
          rw [List.append_assoc] at hn
          exact hn
        · have hz : wordLen (bytesOf (s.extract a s.size)) = 0 := by omega
          rw [hz]
          have g1 : ¬ (((0 : Nat) : Int) > 0) := by omega
          have g2 : (0 : Int) < ((s.extract a s.size).size : Int) := by omega
          have g3 : (1 : Int) ≤ ((s.extract a s.size).size : Int) := by omega
          simp only [if_neg g1, if_pos g2, if_pos g3]
          have hbz : bt (s.extract a s.size) 0 = bt s (a : Int) := by
            have e1 := drop_bytes (s.extract a s.size) 0 (by omega)
            have e2 := drop_bytes s a hlt
            rw [List.drop_zero, hbt, e2] at e1
            exact (List.cons.inj e1).1.symm
          have hdl := dlt_range (bt s (a : Int))
          have e2 : wrap64 (dp + 1) = dp + 1 := w64 (by omega) (by omega)
          have e3 : wrap64 (dp - 1) = dp - 1 := w64 (by omega) (by omega)
          have hcut := tail_tail s a 1 ha
          rw [hbz, hcut, e2, e3]
          have hn := ih (a + 1) acc (dp + dltI (bt s (a : Int))) (by omega) (by omega) hl (by omega)
          rw [drop_bytes s a hlt]
          rw [hbt, drop_bytes s a hlt] at hz
          rw [scan_sep _ _ dp hz]
          generalize bt s (a : Int) = c at *
          by_cases h4 : c = 40
          · subst h4
            have e : dltI 40 = 1 := rfl
            rw [e] at hn ⊢
            simp only [if_true]
            exact hn
          · simp only [if_neg h4]
            by_cases h5 : c = 41
            · subst h5
              have e : dltI 41 = -1 := rfl
              rw [e] at hn ⊢
              simp only [if_true]
              exact hn
            · have e : dltI c = 0 := by unfold dltI; rw [if_neg h4, if_neg h5]
              rw [e, Int.add_zero] at hn ⊢
              simp only [if_neg h5]
              exact hn
      by_cases hf : wordLen (bytesOf (s.extract a s.size)) = (s.extract a s.size).size
      · simp only [if_pos hf, if_pos (show (-1 : Int) < 0 by omega)]
        rw [hf] at main
        exact main
      · simp only [if_neg hf, if_neg (show ¬ (((wordLen (bytesOf (s.extract a s.size)) : Nat) : Int) < 0) by omega)]
        exact main
    · have hdm : decide ((acc.length : Int) ≤ 24) = false := decide_eq_false hm
      rw [hdm, finR_far s _ (by rw [List.length_append]; omega), ← finR_far s acc (by omega)]
      exact impl_ReadTree_end s h0 acc dp _ (by omega)
theorem impl_ReadTree_ev (s : ByteArray) (hs : s.size ≤ 1048576) : Ev (fun k => impl_ReadTree.f k s) (readT s) := by
  rw [readT_fin]
  by_cases h0 : 0 < s.size
  · have h := impl_ReadTree_l0 s h0 hs s.size 0 [] 0 (by omega) (by omega) (Nat.zero_le _) (by omega)
    rw [tail_all, List.drop_zero] at h
    exact h
  · have hz : s.size = 0 := by omega
    have c := (toList_nilR s).2 hz
    have hb : bytesOf s = [] := List.length_eq_zero_iff.1 (by rw [bytesOf_len]; exact hz)
    have e : scanN [] 0 [] = ([] : List S65) := by simp only [scanN]; exact if_pos rfl
    rw [hb, e]
    have ef : finR s ([] : List S65) = ([], false) := if_neg (fun q => by have := (treeB_iff.1 q.1).1; have h2 := this.1; exact absurd h2 (by decide))
    rw [ef]
    show Ev (fun k => impl_ReadTree.l0 k s [] 0 s) _
    refine Ev.step (fun k => by rw [impl_ReadTree.l0, if_pos c]) ?_
    refine Ev.step (fun k => by rw [impl_ReadTree.j1]) ?_
    simp only [Bool.false_eq_true, if_false, if_pos c]
    exact Ev.now _

/-! laws_markNodeS -/
def markedN : Int → List S65 → List S65
  | _, [] => []
  | x, _ :: l => ⟨x, x + 1⟩ :: markedN (x + 2) l
theorem markedN_len : ∀ (l : List S65) (x : Int), (markedN x l).length = l.length
  | [], _ => rfl
  | _ :: l, x => by simp [markedN, markedN_len l]
theorem markN_l0 : ∀ (rest pre : List S65) (x : Int), pre.length + rest.length ≤ 1048576 → 0 ≤ x → x ≤ 4194304 + 2 * (pre.length : Int) → Ev (fun k => laws_markNodeS.l0 k (pre ++ rest) x pre.length) (x + 2 * rest.length, pre ++ markedN x rest)
  | [], pre, x, hl, h0, h1 => by
    refine Ev.step (fun k => by simp only [laws_markNodeS.l0]; rw [if_neg (by simp)]) ?_
    exact evSome (by simp [markedN])
  | a :: rest, pre, x, hl, h0, h1 => by
    simp only [List.length_cons] at hl
    have c1 : (pre.length : Int) < ((pre ++ a :: rest).length : Int) := by simp; omega
    have c2 : (0 : Int) ≤ (pre.length : Int) := by omega
    have e4 : wrap64 ((pre.length : Int) + 1) = ((pre.length + 1 : Nat) : Int) := by rw [w64 (by omega) (by omega)]; rfl
    have e5 : wrap64 (x + 1) = x + 1 := w64 (by omega) (by omega)
    have e6 : wrap64 (x + 1 + 1) = x + 2 := by rw [w64 (by omega) (by omega)]; omega
    have hs : ∀ (v w : S65), (pre ++ v :: rest).set pre.length w = pre ++ w :: rest := fun v w => by rw [List.set_append_right _ _ (Nat.le_refl _)]; simp
    have hr : ∀ v : S65, rd_T65 (pre ++ v :: rest) (pre.length : Int) = v := fun v => by rw [rdN]; simp [List.getD_eq_getElem?_getD]
    refine Ev.step (fun k => by simp only [laws_markNodeS.l0]; rw [if_pos c1, if_pos c2]) ?_
    simp only [Option.bind_some, Int.toNat_natCast, hs, hr, e4, e5, e6]
    have ih := markN_l0 rest (pre ++ [⟨x, x + 1⟩]) (x + 2) (by simp; omega) (by omega) (by simp; omega)
    simp only [List.length_append, List.length_cons, List.length_nil, List.append_assoc, List.cons_append, List.nil_append] at ih
    simp only [markedN, List.length_cons]
    rw [show x + 2 * ((rest.length + 1 : Nat) : Int) = x + 2 + 2 * (rest.length : Int) by omega]
    exact ih
theorem markN_ev (l : List S65) (hl : l.length ≤ 1048576) : Ev (fun k => laws_markNodeS.f k l 1) (1 + 2 * l.length, markedN 1 l) := by
  have := markN_l0 l [] 1 (by simpa using hl) (by omega) (by simp)
  simpa [laws_markNodeS.f] using this

/-! laws_heldNodeS -/
theorem heldN_l0 : ∀ (rest pre : List S65) (x : Int), pre.length + rest.length ≤ 1048576 → 0 ≤ x → x ≤ 4194304 + 2 * (pre.length : Int) → Ev (fun k => laws_heldNodeS.l0 k (pre ++ markedN x rest) x pre.length) (x + 2 * rest.length)
  | [], pre, x, hl, h0, h1 => by
    refine Ev.step (fun k => by simp only [laws_heldNodeS.l0]; rw [if_neg (by simp [markedN])]) ?_
    exact evSome (by simp)
  | a :: rest, pre, x, hl, h0, h1 => by
    simp only [List.length_cons] at hl
    have c1 : (pre.length : Int) < ((pre ++ markedN x (a :: rest)).length : Int) := by simp [markedN]; omega
    have c2 : (0 : Int) ≤ (pre.length : Int) := by omega
    have e4 : wrap64 ((pre.length : Int) + 1) = ((pre.length + 1 : Nat) : Int) := by rw [w64 (by omega) (by omega)]; rfl
    have e5 : wrap64 (x + 1) = x + 1 := w64 (by omega) (by omega)
    have e6 : wrap64 (x + 1 + 1) = x + 2 := by rw [w64 (by omega) (by omega)]; omega
    have hr : rd_T65 (pre ++ markedN x (a :: rest)) (pre.length : Int) = ⟨x, x + 1⟩ := by rw [rdN]; simp [List.getD_eq_getElem?_getD, markedN]
    refine Ev.step (fun k => by simp only [laws_heldNodeS.l0]; rw [if_pos c1, if_pos c2, hr, e5, e6, e4]) ?_
    simp only [if_true]
    have ih := heldN_l0 rest (pre ++ [⟨x, x + 1⟩]) (x + 2) (by simp; omega) (by omega) (by simp; omega)
    simp only [List.length_append, List.length_cons, List.length_nil, List.append_assoc, List.cons_append, List.nil_append] at ih
    simp only [markedN, List.length_cons]
    rw [show x + 2 * ((rest.length + 1 : Nat) : Int) = x + 2 + 2 * (rest.length : Int) by omega]
    exact ih
theorem heldN_ev (l : List S65) (hl : l.length ≤ 1048576) : Ev (fun k => laws_heldNodeS.f k (markedN 1 l) 1) (1 + 2 * l.length) := by
  have := heldN_l0 l [] 1 (by simpa using hl) (by omega) (by simp)
  simpa [laws_heldNodeS.f] using this

-- imports: Q
theorem readT_small (s : ByteArray) : (readT s).1.length ≤ 1048576 := by
  unfold readT
  split
  · rename_i h
    have := (treeB_iff.1 h.1).1
    dsimp only; omega
  · exact Nat.zero_le _
theorem law_j (s : ByteArray) (r : List S65) (c : Bool) (hr : r.length ≤ 1048576) (hi : Ev (fun k => impl_ReadTree.f k s) (r, c)) :
    Ev (fun k => laws_FnExactReadTree.j0 k s r c r false) true := by
  refine Ev.step (fun k => by rw [laws_FnExactReadTree.j0]) ?_
  simp only [Bool.false_eq_true, if_false]
  have c1 : ¬ (1 + 2 * (r.length : Int) < 0) := by omega
  refine Ev.bind (markN_ev r hr) (Ev.bind (heldN_ev r hr) ?_)
  simp only [if_neg c1, if_true]
  refine Ev.bind hi (Ev.bind (eqNodeS_ev r hr) ?_)
  simp only [if_true, bne_self_eq_false]
  refine Ev.step (fun k => by rw [laws_FnExactReadTree.j1]) ?_
  simp only [Bool.false_eq_true, if_false]
  refine Ev.bind (heldN_ev r hr) ?_
  simp only [if_neg c1, if_true]
  exact Ev.now _
theorem law : laws_FnExactReadTree.Pure := by
  intro a0 _
  refine Ev.rounds ?_
  unfold laws_FnExactReadTree.f
  by_cases h : (a0.size : Int) > 1048576
  · simp only [if_pos h]; exact Ev.now _
  · simp only [if_neg h]
    have hs := spec_ReadTree_ev a0 (by omega)
    have hi := impl_ReadTree_ev a0 (by omega)
    have hr := readT_small a0
    generalize readT a0 = T at hs hi hr
    obtain ⟨r, c⟩ := T
    refine Ev.bind hs (Ev.bind hi (Ev.bind (eqNodeS_ev r hr) ?_))
    simp only [if_true, bne_self_eq_false]
    exact law_j a0 r c hr hi

end Go.Proofs.Ytbdjconojnjgdaa.PureFnExactReadTree
namespace Go.Proofs.Ytbdjconojnjgdaa.Pure
open Go.RowKit Go.Proofs.Ytbdjconojnjgdaa.HFnExactReadTree
theorem FnExactReadTree : laws_FnExactReadTree.Pure := Go.Proofs.Ytbdjconojnjgdaa.PureFnExactReadTree.law
end Go.Proofs.Ytbdjconojnjgdaa.Pure
