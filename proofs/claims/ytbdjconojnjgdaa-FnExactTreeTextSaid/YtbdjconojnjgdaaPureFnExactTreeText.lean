/- For every list of nodes, the program's TreeText and the reference's TreeText give the same text. Condition: none but the model's own bounds. -/
import Derived.Test.YtbdjconojnjgdaaHFnExactTreeTextx6
import Derived.Test.YtbdjconojnjgdaaM
import Derived.Test.YtbdjconojnjgdaaT
import Derived.Test.YtbdjconojnjgdaaQ
import Derived.Test.YtbdjconojnjgdaaMB
import Derived.Test.YtbdjconojnjgdaaTB
namespace Go.Proofs.Ytbdjconojnjgdaa.PureFnExactTreeText
open Go.RowKit Go.Proofs.Ytbdjconojnjgdaa.HFnExactTreeText Go.Proofs.YtbdjconojnjgdaaW.PrintWords Go.Proofs.YtbdjconojnjgdaaW.PrintLast Go.Proofs.YtbdjconojnjgdaaW.PrintMore Go.Proofs.Ytbdjconojnjgdaa.M Go.Proofs.Ytbdjconojnjgdaa.T
set_option linter.unusedVariables false
set_option linter.unusedSimpArgs false

abbrev lab (l : List S65) (i : Nat) : Int := (l.getD i z65).f0
abbrev dep (l : List S65) (i : Nat) : Int := (l.getD i z65).f1
theorem rdN (l : List S65) (i : Nat) : rd_T65 l (i : Int) = l.getD i z65 := by unfold rd_T65; simp
def subGo (l : List S65) (v : Int) : Nat → Nat → List S65
  | 0, _ => []
  | d + 1, j => ⟨lab l j, dep l j - v⟩ :: subGo l v d (j + 1)
theorem subGo_len (l : List S65) (v : Int) (d : Nat) : ∀ j, (subGo l v d j).length = d := by
  induction d with
  | zero => intro j; rfl
  | succ d ih => intro j; simp [subGo, ih]
def subT (l : List S65) (a : Int) : List S65 := if atB (lab l) (dep l) l.length a = true then subGo l (dep l a.toNat) (endI (dep l) l.length a.toNat - a.toNat) a.toNat else []
theorem subT_small (l : List S65) (a : Int) (hl : l.length ≤ 1048576) : (subT l a).length ≤ 1048576 := by
  unfold subT
  by_cases h : atB (lab l) (dep l) l.length a = true
  · obtain ⟨i, rfl, hi, _⟩ := atB_nat h
    rw [if_pos h, subGo_len]
    have := endI_le (dep l) l.length i hi
    simp only [Int.toNat_natCast]; omega
  · rw [if_neg h]; simp
/-- Which child of its parent a node is. -/
def rankT (l : List S65) (a : Int) : Int := if atB (lab l) (dep l) l.length a = true ∧ 0 ≤ parI (dep l) a.toNat then idxGo a (kidsI (dep l) l.length (parI (dep l) a.toNat).toNat) 0 else -1
theorem rankT_yes (l : List S65) (a : Int) (h : atB (lab l) (dep l) l.length a = true) (h0 : 0 ≤ parI (dep l) a.toNat) : rankT l a = idxGo a (kidsI (dep l) l.length (parI (dep l) a.toNat).toNat) 0 := by unfold rankT; rw [if_pos ⟨h, h0⟩]
theorem rankT_no (l : List S65) (a : Int) (h : ¬ (atB (lab l) (dep l) l.length a = true ∧ 0 ≤ parI (dep l) a.toNat)) : rankT l a = -1 := by unfold rankT; rw [if_neg h]
theorem par_at (l : List S65) (a : Int) (h : atB (lab l) (dep l) l.length a = true) (h0 : 0 ≤ parI (dep l) a.toNat) : atB (lab l) (dep l) l.length (parI (dep l) a.toNat) = true := by
  obtain ⟨i, rfl, hi, ht⟩ := atB_nat h
  have := parGo_range (dep l) (dep l i) i
  simp only [Int.toNat_natCast, parI] at h0 ⊢
  exact atB_iff.2 ⟨ht, h0, by omega⟩
theorem kids_small (l : List S65) (i : Nat) (hi : i < l.length) (hl : l.length ≤ 1048576) : (kidsI (dep l) l.length i).length ≤ 1048576 := by
  have := kidGo_len (dep l) (dep l i + 1) (endI (dep l) l.length i - (i + 1)) (i + 1)
  have := endI_le (dep l) l.length i hi
  unfold kidsI; omega
theorem kidsT_small (l : List S65) (a : Int) (hl : l.length ≤ 1048576) : (if atB (lab l) (dep l) l.length a = true then kidsI (dep l) l.length a.toNat else []).length ≤ 1048576 := by
  by_cases h : atB (lab l) (dep l) l.length a = true
  · obtain ⟨i, rfl, hi, _⟩ := atB_nat h
    rw [if_pos h]
    have := kidGo_len (dep l) (dep l i + 1) (endI (dep l) l.length i - (i + 1)) (i + 1)
    have := endI_le (dep l) l.length i hi
    simp only [Int.toNat_natCast]
    unfold kidsI; omega
  · rw [if_neg h]; simp
/-- Is node b under node a? -/
def underT (l : List S65) (a b : Int) : Bool := atB (lab l) (dep l) l.length a && (atB (lab l) (dep l) l.length b && decide (a < b ∧ b < ((endI (dep l) l.length a.toNat : Nat) : Int)))
/-- Does node b follow node a, and isn't under it? -/
def leftT (l : List S65) (a b : Int) : Bool := atB (lab l) (dep l) l.length a && (atB (lab l) (dep l) l.length b && decide (b ≥ ((endI (dep l) l.length a.toNat : Nat) : Int)))
def heightT (l : List S65) : Int := if treeB (lab l) (dep l) l.length = true then highGo (dep l) l.length 0 0 else 0
def leavesT (l : List S65) : Int := if treeB (lab l) (dep l) l.length = true then leafGo (dep l) l.length l.length 0 0 else 0
def sameGo (a b : List S65) : Nat → Nat → Bool
  | 0, _ => true
  | d + 1, j => if (!((a.getD j z65).f0 == (b.getD j z65).f0) || (!((a.getD j z65).f1 == (b.getD j z65).f1))) = true then false else sameGo a b d (j + 1)
def sameT (a b : List S65) : Bool := if a.length = b.length then sameGo a b a.length 0 else false
def putGo (l : List S65) : Nat → Nat → ByteArray → ByteArray
  | 0, _, s => s
  | d + 1, j, s => putGo l d (j + 1) (s ++ (varS (lab l j) ++ varS (dep l j)))
def putT (l : List S65) : ByteArray := if treeB (lab l) (dep l) l.length = true then putGo l l.length 0 (varS l.length) else ⟨#[]⟩
/-- A node of depth q can stand behind these. -/
def shapeP (acc : List S65) (i : Nat) (q : Int) : Prop := (i = 0 → q = 0) ∧ (0 < i → 1 ≤ q ∧ q ≤ dep acc (i - 1) + 1)
instance (acc : List S65) (i : Nat) (q : Int) : Decidable (shapeP acc i q) := by unfold shapeP; infer_instance
/-- The nodes at place a on, d of them still to come, i of them behind. -/
def getGo (s : ByteArray) : Nat → Nat → Nat → List S65 → List S65 × Int
  | 0, _, a, acc => if a = s.size then (acc, 0) else ([], 6)
  | d + 1, i, a, acc =>
    let r := readVar (s.extract a s.size)
    if r.2 = 0 then ([], 1)
    else if ¬ (0 ≤ r.1 ∧ r.1 ≤ 5) then ([], 3)
    else
      let q := readVar (s.extract (a + r.2.toNat) s.size)
      if q.2 = 0 then ([], 1)
      else if q.1 > 12 then ([], 4)
      else if ¬ shapeP acc i q.1 then ([], 5)
      else getGo s d (i + 1) (a + r.2.toNat + q.2.toNat) (acc ++ [⟨r.1, q.1⟩])
def getT (s : ByteArray) : List S65 × Int :=
  let r := readVar s
  if r.2 = 0 then ([], 1) else if ¬ (1 ≤ r.1 ∧ r.1 ≤ 24) then ([], 2) else getGo s r.1.toNat 0 r.2.toNat []
theorem getGo_len (s : ByteArray) (d : Nat) : ∀ (i a : Nat) (acc : List S65), (getGo s d i a acc).1.length ≤ acc.length + d := by
  induction d with
  | zero => intro i a acc; simp only [getGo]; split <;> simp
  | succ d ih =>
    intro i a acc
    simp only [getGo]
    split
    · simp
    split
    · simp
    split
    · simp
    split
    · simp
    split
    · simp
    have := ih (i + 1) (a + (readVar (s.extract a s.size)).2.toNat + (readVar (s.extract (a + (readVar (s.extract a s.size)).2.toNat) s.size)).2.toNat) (acc ++ [⟨(readVar (s.extract a s.size)).1, (readVar (s.extract (a + (readVar (s.extract a s.size)).2.toNat) s.size)).1⟩])
    simp at this ⊢
    omega
theorem getT_small (s : ByteArray) : (getT s).1.length ≤ 1048576 := by
  unfold getT
  simp only
  split
  · simp
  split
  · simp
  rename_i h
  have := getGo_len s (readVar s).1.toNat 0 (readVar s).2.toNat []
  simp at this
  omega

/-! laws_szNodeS -/
theorem sz_eq (l : List S67) (hl : l.length ≤ maxLen) (a : Int) (h0 : 0 ≤ a) (h1 : a ≤ 1048576) : laws_szNodeS.f l a = some (if a < l.length then -1 else a - l.length) := by
  have hm : maxLen = 9223372036854775807 := rfl
  unfold laws_szNodeS.f
  rw [w64 (by omega) (by omega)]
  by_cases h : a < l.length
  · rw [if_pos h, if_pos (by omega)]
  · rw [if_neg h, if_neg (by omega)]

/-! spec_l1In -/
theorem spec_l1In_eq (a b c : Int) : spec_l1In.f a b c = some (decide (b ≤ a ∧ a ≤ c)) := by
  unfold spec_l1In.f
  by_cases h : b ≤ a
  · rw [if_pos h]; simp [h]
  · rw [if_neg h]; simp [h]

/-! spec_LabelOk -/
theorem spec_LabelOk_eq (a : Int) : spec_LabelOk.f a = some (decide (0 ≤ a ∧ a ≤ 5)) := by
  unfold spec_LabelOk.f; simp only [spec_l1In_eq, Option.bind_some]

/-! spec_TreeOk -/
theorem spec_TreeOk_l0 (l : List S65) (hl : l.length ≤ 1048576) (d : Nat) : ∀ i : Nat, i + d = l.length → (∀ j, j < i → nodeOk (lab l) (dep l) j) → Ev (fun k => spec_TreeOk.l0 k l i) (treeB (lab l) (dep l) l.length) := by
  induction d with
  | zero =>
    intro i hi hall
    refine Ev.step (fun k => by simp only [spec_TreeOk.l0]; rw [if_neg (by omega)]) ?_
    simp only [spec_l1In_eq, Option.bind_some]
    refine evSome ?_
    have e : i = l.length := by omega
    rw [treeB_all (by rw [← e]; exact hall)]
    congr 1; simp; omega
  | succ d ih =>
    intro i hi hall
    have hil : i < l.length := by omega
    have c1 : (i : Int) < (l.length : Int) := by omega
    have c2 : (0 : Int) ≤ (i : Int) := by omega
    refine Ev.step (fun k => by simp only [spec_TreeOk.l0]; rw [if_pos c1, if_pos c2]) ?_
    simp only [spec_LabelOk_eq, spec_l1In_eq, Option.bind_some, rdN, decide_eq_true_eq]
    by_cases h1 : 0 ≤ lab l i ∧ lab l i ≤ 5
    · simp only [if_pos h1]
      by_cases h2 : 0 ≤ dep l i ∧ dep l i ≤ 12
      · simp only [if_pos h2]
        by_cases h0 : i = 0
        · subst h0
          by_cases hz : dep l 0 = 0
          · have hb : ((dep l 0 == 0) != (((0 : Nat) : Int) == 0)) = false := by rw [hz]; rfl
            have hn := ih 1 (by omega) (fun j hj => by
              have : j = 0 := by omega
              subst this; exact ⟨h1.1, h1.2, h2.1, h2.2, fun _ => hz, fun h => by omega⟩)
            have e4 : wrap64 (((0 : Nat) : Int) + 1) = ((1 : Nat) : Int) := by rw [w64 (by omega) (by omega)]; rfl
            simp only [hb, Bool.false_eq_true, if_false, e4, if_neg (show ¬ ((0 : Nat) : Int) > 0 by omega)]
            exact hn
          · have hb : ((dep l 0 == 0) != (((0 : Nat) : Int) == 0)) = true := by simp [hz]
            simp only [hb, if_true]
            refine evSome (treeB_no hil ?_).symm
            intro h; exact hz (h.2.2.2.2.1 rfl)
        · have hiz : ((i : Int) == 0) = false := by simp; omega
          by_cases hz : dep l i = 0
          · have hb : ((dep l i == 0) != ((i : Int) == 0)) = true := by rw [hiz, hz]; rfl
            simp only [hb, if_true]
            refine evSome (treeB_no hil ?_).symm
            intro h; have := h.2.2.2.2.2 (by omega); omega
          · have hb : ((dep l i == 0) != ((i : Int) == 0)) = false := by rw [hiz]; simp [hz]
            have hp := hall (i - 1) (by omega)
            have hpr : 0 ≤ dep l (i - 1) ∧ dep l (i - 1) ≤ 12 := ⟨hp.2.2.1, hp.2.2.2.1⟩
            have hn : (1 ≤ dep l i ∧ dep l i ≤ dep l (i - 1) + 1) → _ := fun hd => ih (i + 1) (by omega) (fun j hj => by
              by_cases hji : j < i
              · exact hall j hji
              · have : j = i := by omega
                subst this; exact ⟨h1.1, h1.2, h2.1, h2.2, fun h => by omega, fun _ => hd⟩)
            have e3 : wrap64 ((i : Int) - 1) = ((i - 1 : Nat) : Int) := by rw [w64 (by omega) (by omega)]; omega
            have e4 : wrap64 ((i : Int) + 1) = ((i + 1 : Nat) : Int) := by rw [w64 (by omega) (by omega)]; rfl
            have c5 : (0 : Int) ≤ ((i - 1 : Nat) : Int) := by omega
            have c6 : ((i - 1 : Nat) : Int) < (l.length : Int) := by omega
            have e5 : wrap64 (dep l (i - 1) + 1) = dep l (i - 1) + 1 := w64 (by omega) (by omega)
            simp only [hb, Bool.false_eq_true, if_false, e3, e4, if_pos (show (i : Int) > 0 by omega), if_pos c5, if_pos c6, rdN, e5]
            by_cases hd : dep l i > dep l (i - 1) + 1
            · simp only [if_pos hd]
              refine evSome (treeB_no hil ?_).symm
              intro h; have := (h.2.2.2.2.2 (by omega)).2; omega
            · simp only [if_neg hd]
              exact hn ⟨by omega, by omega⟩
      · simp only [if_neg h2]
        exact evSome (treeB_no hil (fun h => h2 ⟨h.2.2.1, h.2.2.2.1⟩)).symm
    · simp only [if_neg h1]
      exact evSome (treeB_no hil (fun h => h1 ⟨h.1, h.2.1⟩)).symm
theorem spec_TreeOk_ev (l : List S65) (hl : l.length ≤ 1048576) : Ev (fun k => spec_TreeOk.f k l) (treeB (lab l) (dep l) l.length) :=
  spec_TreeOk_l0 l hl l.length 0 (by omega) (fun j hj => by omega)

/-! spec_LabelName -/
def nameS (a : Int) : ByteArray := if a = 0 then ⟨#[100, 105, 118]⟩ else if a = 1 then ⟨#[112]⟩ else if a = 2 then ⟨#[97]⟩ else if a = 3 then ⟨#[117, 108]⟩ else if a = 4 then ⟨#[108, 105]⟩ else if a = 5 then ⟨#[98]⟩ else ⟨#[]⟩
theorem nameS_no (a : Int) (h : ¬ (0 ≤ a ∧ a ≤ 5)) : nameS a = ⟨#[]⟩ := by
  unfold nameS
  rw [if_neg (by omega), if_neg (by omega), if_neg (by omega), if_neg (by omega), if_neg (by omega), if_neg (by omega)]
theorem spec_LabelName_eq (a : Int) : spec_LabelName.f a = some (nameS a) := by
  unfold spec_LabelName.f
  simp only [spec_LabelOk_eq, Option.bind_some, decide_eq_true_eq]
  by_cases h : 0 ≤ a ∧ a ≤ 5
  · rw [if_pos h, if_pos h.1]
    obtain ⟨n, rfl⟩ := Int.eq_ofNat_of_zero_le h.1
    have hn : n < 6 := by omega
    match n, hn with
    | 0, _ | 1, _ | 2, _ | 3, _ | 4, _ | 5, _ => rfl
  · rw [if_neg h, nameS_no a h]

def treeText (l : List S65) : ByteArray := if treeB (lab l) (dep l) l.length = true then nameB (lab l 0) ++ (textTo (lab l) (dep l) 1 l.length ++ closeN (dep l (l.length - 1)).toNat) else ⟨#[]⟩
theorem dep_all {l : List S65} (h : treeP (lab l) (dep l) l.length) (j : Nat) : 0 ≤ dep l j ∧ dep l j ≤ 12 := by
  by_cases c : j < l.length
  · exact dep_range h c
  · have e : l.getD j z65 = z65 := by rw [List.getD_eq_getElem?_getD, List.getElem?_eq_none (by omega)]; rfl
    show 0 ≤ (l.getD j z65).f1 ∧ (l.getD j z65).f1 ≤ 12
    rw [e]
    exact ⟨by decide, by decide⟩
theorem close_comm (n : Nat) : (⟨#[41]⟩ : ByteArray) ++ closeN n = closeN n ++ (⟨#[41]⟩ : ByteArray) := by
  induction n with
  | zero => exact (app_nil _).trans (nil_app _).symm
  | succ n ih => simp only [closeN]; rw [← ByteArray.append_assoc, ih]
theorem treeText_size {l : List S65} (h : treeP (lab l) (dep l) l.length) (a b : Nat) (hb : b ≤ l.length) : (textTo (lab l) (dep l) a b).size ≤ 400 := by
  have h1 := textTo_size (lab l) (dep l) (dep_all h) (b - a) a
  have := h.1
  unfold textTo; omega
theorem end_first {l : List S65} (h : treeP (lab l) (dep l) l.length) : endI (dep l) l.length 0 = l.length := by
  have hn := h.1
  have hel := endI_le (dep l) l.length 0 (by omega)
  by_cases c : endI (dep l) l.length 0 < l.length
  · exfalso
    have h1 := endI_at (dep := dep l) (n := l.length) (i := 0) (by omega) c
    have h2 := dep_step h (i := endI (dep l) l.length 0) (by omega) c
    have h3 := dep_zero h
    omega
  · omega
theorem treeText_sub {l : List S65} (h : treeP (lab l) (dep l) l.length) : subText (lab l) (dep l) l.length 0 = treeText l := by
  unfold subText treeText
  rw [if_pos (treeB_iff.2 h), end_first h, dep_zero h, Int.sub_zero]

/-! spec_TreeText -/
theorem spec_TreeText_l2 (l : List S65) (hl : l.length ≤ 1048576) (ht : treeP (lab l) (dep l) l.length) (m : Nat) : ∀ (d : Nat) (s : ByteArray), (d : Int) + m = dep l (l.length - 1) → s.size ≤ 1000 + d → Ev (fun k => spec_TreeText.l2 k l s d) (s ++ closeN m) := by
  have hn := ht.1
  have c0 : (l.length : Int) > 0 := by omega
  have e1 : wrap64 ((l.length : Int) - 1) = ((l.length - 1 : Nat) : Int) := by rw [w64 (by omega) (by omega)]; omega
  have c1 : (0 : Int) ≤ ((l.length - 1 : Nat) : Int) := Int.natCast_nonneg _
  have c2 : ((l.length - 1 : Nat) : Int) < (l.length : Int) := by omega
  have hT := treeB_iff.2 ht
  have hr := dep_all ht (l.length - 1)
  induction m with
  | zero =>
    intro d s hd hs
    have c3 : ¬ ((d : Int) < dep l (l.length - 1)) := by omega
    refine Ev.step (fun k => by rw [spec_TreeText.l2, if_pos c0]) ?_
    refine Ev.bind (spec_TreeOk_ev l hl) ?_
    simp only [if_pos hT, e1, if_pos c1, if_pos c2, rdN, if_neg c3]
    exact evSome (app_nil s).symm
  | succ m ih =>
    intro d s hd hs
    have c3 : (d : Int) < dep l (l.length - 1) := by omega
    have c4 : s.size + 1 ≤ 9223372036854775807 := by omega
    have e4 : wrap64 ((d : Int) + 1) = ((d + 1 : Nat) : Int) := by rw [w64 (by omega) (by omega)]; rfl
    refine Ev.step (fun k => by rw [spec_TreeText.l2, if_pos c0]) ?_
    refine Ev.bind (spec_TreeOk_ev l hl) ?_
    simp only [if_pos hT, e1, if_pos c1, if_pos c2, rdN, if_pos c3, if_pos c4, e4]
    have := ih (d + 1) (s ++ ⟨#[41]⟩) (by omega) (by rw [ByteArray.size_append]; have : (⟨#[41]⟩ : ByteArray).size = 1 := rfl; omega)
    rw [ByteArray.append_assoc, close_comm] at this
    exact this
theorem spec_TreeText_l1 (l : List S65) (i : Nat) (h0 : 0 < i) (hi : i < l.length) (hl : l.length ≤ 1048576) (v : Int) (hv : (l.getD (i - 1) z65).f1 = v) (hv2 : 0 ≤ v ∧ v ≤ 12) (u : Int) (hu : (l.getD i z65).f1 = u) (nm : ByteArray) (hn : spec_LabelName.f (l.getD i z65).f0 = some nm) (hnm : nm.size ≤ 3) (r : ByteArray) (m : Nat) : ∀ (d : Nat) (s : ByteArray), d ≤ 20 → m = (v + 1 - (d : Int)).toNat → s.size ≤ 1000 + d →
    Ev (fun k => spec_TreeText.l0 k l (s ++ (closeN (v - (d : Int)).toNat ++ ((if u > v then (⟨#[40]⟩ : ByteArray) else ⟨#[32]⟩) ++ nm))) ((i + 1 : Nat) : Int)) r → Ev (fun k => spec_TreeText.l1 k l s i d) r := by
  have e1 : wrap64 ((i : Int) - 1) = ((i - 1 : Nat) : Int) := by rw [w64 (by omega) (by omega)]; omega
  have e2 : wrap64 ((i : Int) + 1) = ((i + 1 : Nat) : Int) := by rw [w64 (by omega) (by omega)]; rfl
  have c1 : (0 : Int) ≤ ((i - 1 : Nat) : Int) := Int.natCast_nonneg _
  have c2 : ((i - 1 : Nat) : Int) < (l.length : Int) := by clear e1 e2; omega
  have c3 : (0 : Int) ≤ (i : Int) := Int.natCast_nonneg _
  have c4 : (i : Int) < (l.length : Int) := by clear e1 e2; omega
  have h1 : (⟨#[41]⟩ : ByteArray).size = 1 := rfl
  induction m with
  | zero =>
    intro d s h20 hd hs hK
    have c5 : ¬ ((d : Int) ≤ v) := by clear hK e1 e2; omega
    have c6 : s.size + 1 ≤ 9223372036854775807 := by clear hK e1 e2; omega
    have z0 : (v - (d : Int)).toNat = 0 := by clear hK e1 e2; omega
    rw [z0] at hK
    simp only [closeN] at hK
    rw [nil_app] at hK
    have hh : ∀ x : ByteArray, x.size = 1 → (s ++ x).size + nm.size ≤ 9223372036854775807 := fun x hx => by
      clear hK e1 e2
      rw [ByteArray.size_append]; omega
    by_cases c7 : u > v
    · rw [if_pos c7, ← ByteArray.append_assoc] at hK
      refine Ev.step (fun k => by rw [spec_TreeText.l1, e1, if_pos c1, if_pos c2, rdN, hv, if_neg c5, if_pos c3, if_pos c4, rdN, hu, if_pos c7, if_pos c6, hn, Option.bind_some, if_pos (hh _ rfl), e2]) ?_
      exact hK
    · rw [if_neg c7, ← ByteArray.append_assoc] at hK
      refine Ev.step (fun k => by rw [spec_TreeText.l1, e1, if_pos c1, if_pos c2, rdN, hv, if_neg c5, if_pos c3, if_pos c4, rdN, hu, if_neg c7, if_pos c6, hn, Option.bind_some, if_pos (hh _ rfl), e2]) ?_
      exact hK
  | succ m ih =>
    intro d s h20 hd hs hK
    have c5 : (d : Int) ≤ v := by clear hK e1 e2 ih; omega
    have c6 : s.size + 1 ≤ 9223372036854775807 := by clear hK e1 e2 ih; omega
    have hd1 : d + 1 ≤ 20 := by clear hK e1 e2 ih; omega
    have hd2 : m = (v + 1 - ((d + 1 : Nat) : Int)).toNat := by clear hK e1 e2 ih; omega
    have hs1 : (s ++ (⟨#[41]⟩ : ByteArray)).size ≤ 1000 + (d + 1) := by clear hK e1 e2 ih; rw [ByteArray.size_append]; omega
    have hs2 : s.size ≤ 1000 + (d + 1) := by clear hK e1 e2 ih; omega
    have ht1 : (d : Int) < v → (v - (d : Int)).toNat = (v - ((d + 1 : Nat) : Int)).toNat + 1 := by clear hK e1 e2 ih; omega
    have ht2 : ¬ (d : Int) < v → (v - (d : Int)).toNat = (v - ((d + 1 : Nat) : Int)).toNat := by clear hK e1 e2 ih; omega
    have e4 : wrap64 ((d : Int) + 1) = ((d + 1 : Nat) : Int) := by clear hK e1 e2 ih; rw [w64 (by omega) (by omega)]; rfl
    by_cases c7 : (d : Int) < v
    · refine Ev.step (fun k => by rw [spec_TreeText.l1, e1, if_pos c1, if_pos c2, rdN, hv, if_pos c5, if_pos c7, if_pos c6, e4]) ?_
      refine ih (d + 1) (s ++ ⟨#[41]⟩) hd1 hd2 hs1 ?_
      rw [ht1 c7] at hK
      simp only [closeN] at hK
      rw [← close_comm] at hK
      simp only [ByteArray.append_assoc] at hK ⊢
      exact hK
    · refine Ev.step (fun k => by rw [spec_TreeText.l1, e1, if_pos c1, if_pos c2, rdN, hv, if_pos c5, if_neg c7, e4]) ?_
      refine ih (d + 1) s hd1 hd2 hs2 ?_
      rw [ht2 c7] at hK
      exact hK
theorem spec_TreeText_l0 (l : List S65) (hl : l.length ≤ 1048576) (ht : treeP (lab l) (dep l) l.length) (d : Nat) : ∀ (i : Nat) (s : ByteArray), 0 < i → i + d = l.length → s.size ≤ 20 * i →
    Ev (fun k => spec_TreeText.l0 k l s i) (s ++ (textTo (lab l) (dep l) i l.length ++ closeN (dep l (l.length - 1)).toNat)) := by
  have hn := ht.1
  have hT := treeB_iff.2 ht
  induction d with
  | zero =>
    intro i s h0 hi hs
    have c0 : ¬ ((i : Int) < (l.length : Int)) := by omega
    have hr := dep_all ht (l.length - 1)
    refine Ev.step (fun k => by rw [spec_TreeText.l0, if_neg c0]) ?_
    refine Ev.step (fun k => by rw [spec_TreeText.j1]) ?_
    simp only [Bool.false_eq_true, if_false]
    rw [show i = l.length by omega, textTo_nil, nil_app]
    have := spec_TreeText_l2 l hl ht (dep l (l.length - 1)).toNat 0 s (by omega) (by omega)
    exact this
  | succ d ih =>
    intro i s h0 hi hs
    have c0 : (i : Int) < (l.length : Int) := by omega
    have c1 : (i : Int) > 0 := by omega
    have c2 : (0 : Int) ≤ (i : Int) := by omega
    have hr := dep_all ht i
    have hr1 := dep_all ht (i - 1)
    refine Ev.step (fun k => by rw [spec_TreeText.l0, if_pos c0]) ?_
    refine Ev.bind (spec_TreeOk_ev l hl) ?_
    refine Ev.step (fun k => by rw [spec_TreeText.j1, if_pos hT, if_pos c1, if_pos c2, if_pos c0, rdN]) ?_
    obtain ⟨q, hq⟩ := Int.eq_ofNat_of_zero_le hr.1
    show Ev (fun k => spec_TreeText.l1 k l s i (dep l i)) _
    rw [hq]
    refine spec_TreeText_l1 l i h0 (by omega) hl (dep l (i - 1)) rfl hr1 (dep l i) rfl (nameB (lab l i)) (spec_LabelName_eq _) (nameB_size _) _ _ q s (by omega) rfl (by omega) ?_
    rw [← hq]
    have e : closeN (dep l (i - 1) - dep l i).toNat ++ ((if dep l i > dep l (i - 1) then (⟨#[40]⟩ : ByteArray) else ⟨#[32]⟩) ++ nameB (lab l i)) = sepB (dep l) i ++ nameB (lab l i) := by
      unfold sepB; rw [ByteArray.append_assoc]
    rw [e, textTo_cons (lab l) (dep l) i l.length (by omega)]
    have hsz : (s ++ (sepB (dep l) i ++ nameB (lab l i))).size ≤ 20 * (i + 1) := by
      have h1 := nameB_size (lab l i)
      have h2 : (sepB (dep l) i).size ≤ 13 := by
        unfold sepB
        rw [ByteArray.size_append, closeN_size]
        have : (if dep l i > dep l (i - 1) then (⟨#[40]⟩ : ByteArray) else ⟨#[32]⟩).size = 1 := by split <;> rfl
        omega
      rw [ByteArray.size_append, ByteArray.size_append]; omega
    have := ih (i + 1) (s ++ (sepB (dep l) i ++ nameB (lab l i))) (by omega) (by omega) hsz
    simp only [ByteArray.append_assoc] at this ⊢
    exact this
theorem spec_TreeText_ev (l : List S65) (hl : l.length ≤ 1048576) : Ev (fun k => spec_TreeText.f k l) (treeText l) := by
  unfold spec_TreeText.f treeText
  by_cases h : treeB (lab l) (dep l) l.length = true
  · have ht := treeB_iff.1 h
    have hn := ht.1
    rw [if_pos h]
    have c0 : (0 : Int) < (l.length : Int) := by omega
    have c1 : ¬ ((0 : Int) > 0) := by omega
    have c3 : (⟨#[]⟩ : ByteArray).size + (nameS (lab l 0)).size ≤ 9223372036854775807 := by
      have h1 : (nameS (lab l 0)).size ≤ 3 := nameB_size (lab l 0)
      have h2 : (⟨#[]⟩ : ByteArray).size = 0 := rfl
      omega
    have e0 : rd_T65 l 0 = l.getD 0 z65 := rdN l 0
    have e1 : wrap64 ((0 : Int) + 1) = ((1 : Nat) : Int) := by rw [w64 (by omega) (by omega)]; rfl
    refine Ev.step (fun k => by rw [spec_TreeText.l0, if_pos c0]) ?_
    refine Ev.bind (spec_TreeOk_ev l hl) ?_
    refine Ev.step (fun k => by rw [spec_TreeText.j1, if_pos h, if_neg c1, if_pos (Int.le_refl 0), if_pos c0, e0, spec_LabelName_eq, Option.bind_some, if_pos c3, e1]) ?_
    have := spec_TreeText_l0 l hl ht (l.length - 1) 1 (⟨#[]⟩ ++ nameB (lab l 0)) (by omega) (by omega) (by rw [nil_app]; have := nameB_size (lab l 0); omega)
    rw [nil_app] at this
    show Ev (fun k => spec_TreeText.l0 k l ((⟨#[]⟩ : ByteArray) ++ nameS (lab l 0)) ((1 : Nat) : Int)) _
    rw [nil_app]
    exact this
  · rw [if_neg h]
    have hl2 : Ev (fun k => spec_TreeText.l2 k l ⟨#[]⟩ 0) ⟨#[]⟩ := by
      by_cases c : (l.length : Int) > 0
      · refine Ev.step (fun k => by rw [spec_TreeText.l2, if_pos c]) ?_
        refine Ev.bind (spec_TreeOk_ev l hl) ?_
        simp only [if_neg h]; exact Ev.now _
      · exact Ev.step (f := fun _ => some (⟨#[]⟩ : ByteArray)) (fun k => by rw [spec_TreeText.l2, if_neg c]) (Ev.now _)
    by_cases c : (0 : Int) < (l.length : Int)
    · refine Ev.step (fun k => by rw [spec_TreeText.l0, if_pos c]) ?_
      refine Ev.bind (spec_TreeOk_ev l hl) ?_
      refine Ev.step (fun k => by rw [spec_TreeText.j1, if_neg h]) ?_
      exact hl2
    · refine Ev.step (fun k => by rw [spec_TreeText.l0, if_neg c]) ?_
      refine Ev.step (fun k => by rw [spec_TreeText.j1]) ?_
      simp only [Bool.false_eq_true, if_false]
      exact hl2

/-! laws_toNodeS -/
def conv (x : S67) : S65 := ⟨x.f0, x.f1⟩
theorem set_grow (xs : List S65) (i : Nat) (x : S65) (m : Nat) (h : xs.length = i) : (xs ++ List.replicate (m + 1) z65).set i x = (xs ++ [x]) ++ List.replicate m z65 := by
  rw [List.set_append_right _ _ (by omega), List.replicate_succ]
  simp [h]
theorem toNodeS_l0 (l : List S67) (hl : l.length ≤ 1048576) (d : Nat) : ∀ i : Nat, i + d = l.length → Ev (fun k => laws_toNodeS.l0 k l ((l.take i).map conv ++ List.replicate d z65) i) (l.map conv) := by
  induction d with
  | zero =>
    intro i hi
    refine Ev.step (fun k => by simp only [laws_toNodeS.l0]; rw [if_neg (by omega)]) ?_
    have e : i = l.length := by omega
    subst e
    exact evSome (by simp)
  | succ d ih =>
    intro i hi
    have c3 : (i : Int) < ((((l.take i).map conv ++ List.replicate (d + 1) z65).length : Nat) : Int) := by simp; omega
    have e4 : wrap64 ((i : Int) + 1) = ((i + 1 : Nat) : Int) := by rw [w64 (by omega) (by omega)]; rfl
    refine Ev.step (fun k => by simp only [laws_toNodeS.l0]; rw [if_pos (by omega), if_pos (by omega)]) ?_
    simp only [laws_toNode.f, Option.bind_some, if_pos c3, e4, Int.toNat_natCast]
    rw [set_grow _ _ _ _ (by simp; omega)]
    have := ih (i + 1) (by omega)
    have hil : i < l.length := by omega
    rw [List.take_succ_eq_append_getElem hil, List.map_append] at this
    have er : rd_T67 l (i : Int) = l[i] := by unfold rd_T67; simp [List.getD_eq_getElem?_getD, List.getElem?_eq_getElem hil]
    rw [er]
    exact this
theorem toNodeS_ev (l : List S67) (hl : l.length ≤ 1048576) : Ev (fun k => laws_toNodeS.f k l) (l.map conv) := by
  unfold laws_toNodeS.f
  have := toNodeS_l0 l hl l.length 0 (by omega)
  simp only [Int.toNat_natCast, if_pos (show (0 : Int) ≤ (l.length : Int) by omega), if_pos (show l.length ≤ 17592186044416 by omega)]
  simpa using this

/-! impl_within -/
theorem impl_within_eq (a b c : Int) : impl_within.f a b c = some (decide (b ≤ a ∧ a ≤ c)) := by
  unfold impl_within.f
  by_cases h : b ≤ a
  · rw [if_pos h]; simp [h]
  · rw [if_neg h]; simp [h]

/-! impl_LabelOk -/
theorem impl_LabelOk_eq (a : Int) : impl_LabelOk.f a = some (decide (0 ≤ a ∧ a ≤ 5)) := by
  unfold impl_LabelOk.f; simp only [impl_within_eq, Option.bind_some]

/-! impl_depthOk -/
theorem impl_depthOk_eq (l : List S65) (i : Nat) (hi : i < l.length) (hl : l.length ≤ 1048576) (hp : 0 < i → -1 ≤ dep l (i - 1) ∧ dep l (i - 1) ≤ 12) :
    impl_depthOk.f l (i : Int) = some (decide ((i = 0 → dep l i = 0) ∧ (0 < i → 1 ≤ dep l i ∧ dep l i ≤ dep l (i - 1) + 1))) := by
  unfold impl_depthOk.f
  by_cases h0 : i = 0
  · subst h0
    rw [if_pos (show ((0 : Nat) : Int) = 0 by rfl), if_pos (by omega)]
    have : rd_T65 l 0 = l.getD 0 z65 := rdN l 0
    rw [this]
    congr 1
    by_cases hz : dep l 0 = 0
    · rw [decide_eq_true ⟨fun _ => hz, fun h => by omega⟩]; show (dep l 0 == 0) = true; rw [hz]; rfl
    · rw [decide_eq_false (fun h => hz (h.1 rfl))]; show (dep l 0 == 0) = false; exact beq_eq_false_iff_ne.mpr hz
  · have hp := hp (by omega)
    have c3 : ¬ ((i : Int) = 0) := by omega
    have c4 : (0 : Int) ≤ (i : Int) := by omega
    have c5 : (i : Int) < (l.length : Int) := by omega
    have c6 : (0 : Int) ≤ ((i - 1 : Nat) : Int) := by omega
    have c7 : ((i - 1 : Nat) : Int) < (l.length : Int) := by omega
    have e3 : wrap64 ((i : Int) - 1) = ((i - 1 : Nat) : Int) := by rw [w64 (by omega) (by omega)]; omega
    rw [if_neg c3, if_pos c4, if_pos c5, e3, if_pos c6, if_pos c7, rdN, rdN]
    have e5 : wrap64 (dep l (i - 1) + 1) = dep l (i - 1) + 1 := w64 (by omega) (by omega)
    rw [e5, impl_within_eq]
    simp only [Option.bind_some]
    congr 1
    by_cases hz : 1 ≤ dep l i ∧ dep l i ≤ dep l (i - 1) + 1
    · rw [decide_eq_true hz, decide_eq_true ⟨fun h => absurd h h0, fun _ => hz⟩]
    · rw [decide_eq_false hz, decide_eq_false (fun h => hz (h.2 (by omega)))]

/-! impl_TreeOk -/
theorem impl_TreeOk_l0 (l : List S65) (hl : l.length ≤ 1048576) (hlen : 1 ≤ l.length ∧ l.length ≤ 24) (d : Nat) : ∀ i : Nat, i + d = l.length → (∀ j, j < i → nodeOk (lab l) (dep l) j) → Ev (fun k => impl_TreeOk.l0 k l l l.length i) (treeB (lab l) (dep l) l.length) := by
  induction d with
  | zero =>
    intro i hi hall
    refine Ev.step (fun k => by simp only [impl_TreeOk.l0]; rw [if_neg (by omega)]) ?_
    refine evSome ?_
    have e : i = l.length := by omega
    rw [treeB_all (by rw [← e]; exact hall), decide_eq_true hlen]
  | succ d ih =>
    intro i hi hall
    have hil : i < l.length := by omega
    have c1 : (i : Int) < (l.length : Int) := by omega
    have c2 : (0 : Int) ≤ (i : Int) := by omega
    refine Ev.step (fun k => by simp only [impl_TreeOk.l0]; rw [if_pos c1, if_pos c2, if_pos c1]) ?_
    have hd := impl_depthOk_eq l i hil hl (fun h0 => by
      have hp := hall (i - 1) (by omega)
      have := hp.2.2.1
      exact ⟨by omega, hp.2.2.2.1⟩)
    have e4 : wrap64 ((i : Int) + 1) = ((i + 1 : Nat) : Int) := by rw [w64 (by omega) (by omega)]; rfl
    simp only [impl_LabelOk_eq, impl_within_eq, hd, Option.bind_some, rdN, decide_eq_true_eq, e4]
    by_cases h1 : 0 ≤ lab l i ∧ lab l i ≤ 5
    · simp only [if_pos h1]
      by_cases h2 : 0 ≤ dep l i ∧ dep l i ≤ 12
      · simp only [if_pos h2]
        by_cases h3 : (i = 0 → dep l i = 0) ∧ (0 < i → 1 ≤ dep l i ∧ dep l i ≤ dep l (i - 1) + 1)
        · simp only [if_pos h3]
          refine ih (i + 1) (by omega) (fun j hj => ?_)
          by_cases hji : j < i
          · exact hall j hji
          · have : j = i := by omega
            subst this; exact ⟨h1.1, h1.2, h2.1, h2.2, h3.1, h3.2⟩
        · simp only [if_neg h3]
          exact evSome (treeB_no hil (fun h => h3 ⟨h.2.2.2.2.1, h.2.2.2.2.2⟩)).symm
      · simp only [if_neg h2]
        exact evSome (treeB_no hil (fun h => h2 ⟨h.2.2.1, h.2.2.2.1⟩)).symm
    · simp only [if_neg h1]
      exact evSome (treeB_no hil (fun h => h1 ⟨h.1, h.2.1⟩)).symm
theorem impl_TreeOk_ev (l : List S65) (hl : l.length ≤ 1048576) : Ev (fun k => impl_TreeOk.f k l) (treeB (lab l) (dep l) l.length) := by
  unfold impl_TreeOk.f
  simp only [impl_within_eq, Option.bind_some, decide_eq_true_eq]
  by_cases h : (1 : Int) ≤ (l.length : Int) ∧ (l.length : Int) ≤ 24
  · simp only [if_pos h]
    exact impl_TreeOk_l0 l hl (by omega) l.length 0 (by omega) (fun j hj => by omega)
  · simp only [if_neg h]
    exact evSome (treeB_len (by omega)).symm

/-! impl_endOf -/
theorem impl_endOf_l0 (l : List S65) (hl : l.length ≤ 1048576) (i : Nat) (hi : i < l.length) (d : Nat) : ∀ j : Nat, j + d = l.length → Ev (fun k => impl_endOf.l0 k l i j) ((endGo (dep l) (dep l i) d j : Nat) : Int) := by
  induction d with
  | zero =>
    intro j hj
    exact Ev.step (f := fun _ => some ((j : Nat) : Int)) (fun k => by simp only [impl_endOf.l0]; rw [if_neg (by omega)]) (Ev.now _)
  | succ d ih =>
    intro j hj
    have c1 : (j : Int) < (l.length : Int) := by omega
    have c2 : (0 : Int) ≤ (j : Int) := by omega
    have c3 : (0 : Int) ≤ (i : Int) := by omega
    have c4 : (i : Int) < (l.length : Int) := by omega
    have e4 : wrap64 ((j : Int) + 1) = ((j + 1 : Nat) : Int) := by rw [w64 (by omega) (by omega)]; rfl
    refine Ev.step (fun k => by simp only [impl_endOf.l0]; rw [if_pos c1, if_pos c2, if_pos c3, if_pos c4, e4, rdN, rdN]) ?_
    simp only [endGo]
    by_cases h : dep l j > dep l i
    · simp only [if_pos h]; exact ih (j + 1) (by omega)
    · simp only [if_neg h]; exact Ev.now _

theorem impl_endOf_ev (l : List S65) (hl : l.length ≤ 1048576) (i : Nat) (hi : i < l.length) : Ev (fun k => impl_endOf.f k l i) ((endI (dep l) l.length i : Nat) : Int) := by
  unfold impl_endOf.f
  have e4 : wrap64 ((i : Int) + 1) = ((i + 1 : Nat) : Int) := by rw [w64 (by omega) (by omega)]; rfl
  simp only [e4]
  exact impl_endOf_l0 l hl i hi (l.length - (i + 1)) (i + 1) (by omega)

/-! impl_hasNode -/
theorem impl_hasNode_ev (l : List S65) (hl : l.length ≤ 1048576) (a : Int) : Ev (fun k => impl_hasNode.f k l a) (atB (lab l) (dep l) l.length a) := by
  unfold impl_hasNode.f
  refine Ev.bind (impl_TreeOk_ev l hl) ?_
  have e : wrap64 ((l.length : Int) - 1) = (l.length : Int) - 1 := w64 (by omega) (by omega)
  simp only [impl_within_eq, Option.bind_some, e, atB]
  by_cases h : treeB (lab l) (dep l) l.length = true
  · simp only [h, if_true, Bool.true_and]; exact Ev.now _
  · simp only [Bool.eq_false_iff.mpr h, Bool.false_eq_true, if_false, Bool.false_and]; exact Ev.now _

/-! impl_KidsOf -/
theorem impl_KidsOf_l0 (l : List S65) (hl : l.length ≤ 1048576) (i : Nat) (hat : atB (lab l) (dep l) l.length i = true) (d : Nat) : ∀ (j : Nat) (acc : List Int), j + d = endI (dep l) l.length i → acc.length ≤ j → Ev (fun k => impl_KidsOf.l0 k l i acc j) (acc ++ kidGo (dep l) (dep l i + 1) d j) := by
  obtain ⟨i', hi', hi, ht⟩ := atB_nat hat
  have hii : i' = i := by omega
  rw [hii] at hi
  clear hi' hii
  have hel := endI_le (dep l) l.length i hi
  have hdr := dep_range ht hi
  have e5 : wrap64 (dep l i + 1) = dep l i + 1 := w64 (by omega) (by omega)
  induction d with
  | zero =>
    intro j acc hj ha
    refine Ev.step (fun k => by rw [impl_KidsOf.l0]) ?_
    refine Ev.bind (impl_endOf_ev l hl i hi) ?_
    have c0 : ¬ ((j : Int) < ((endI (dep l) l.length i : Nat) : Int)) := by omega
    simp only [if_neg c0, kidGo, List.append_nil]; exact Ev.now _
  | succ d ih =>
    intro j acc hj ha
    refine Ev.step (fun k => by rw [impl_KidsOf.l0]) ?_
    refine Ev.bind (impl_endOf_ev l hl i hi) ?_
    have c0 : ((j : Int) < ((endI (dep l) l.length i : Nat) : Int)) := by omega
    have c1 : (j : Int) < (l.length : Int) := by omega
    have c2 : (0 : Int) ≤ (j : Int) := by omega
    have c3 : (0 : Int) ≤ (i : Int) := by omega
    have c4 : (i : Int) < (l.length : Int) := by omega
    have e4 : wrap64 ((j : Int) + 1) = ((j + 1 : Nat) : Int) := by rw [w64 (by omega) (by omega)]; rfl
    simp only [if_pos c0, if_pos c2, if_pos c1, if_pos c3, if_pos c4, e4, rdN, e5, kidGo]
    by_cases h : dep l j = dep l i + 1
    · have hl1 : acc.length < 17592186044416 := by omega
      simp only [if_pos h, if_pos hl1]
      have := ih (j + 1) (acc ++ [(j : Int)]) (by omega) (by simp; omega)
      simpa only [List.append_assoc, List.cons_append, List.nil_append] using this
    · simp only [if_neg h]
      exact ih (j + 1) acc (by omega) (by omega)

theorem impl_KidsOf_ev (l : List S65) (hl : l.length ≤ 1048576) (a : Int) : Ev (fun k => impl_KidsOf.f k l a) (if atB (lab l) (dep l) l.length a = true then kidsI (dep l) l.length a.toNat else []) := by
  unfold impl_KidsOf.f
  simp only [Option.bind_some]
  refine Ev.bind (impl_hasNode_ev l hl a) ?_
  by_cases h : atB (lab l) (dep l) l.length a = true
  · obtain ⟨i, rfl, hi, _⟩ := atB_nat h
    have e4 : wrap64 ((i : Int) + 1) = ((i + 1 : Nat) : Int) := by rw [w64 (by omega) (by omega)]; rfl
    have hel := endI_le (dep l) l.length i hi
    simp only [if_pos h, e4, Int.toNat_natCast]
    have := impl_KidsOf_l0 l hl i h (endI (dep l) l.length i - (i + 1)) (i + 1) [] (by omega) (by simp)
    rw [List.nil_append] at this
    exact this
  · simp only [if_neg h]; exact Ev.now _

/-! impl_LabelName -/
theorem impl_LabelName_eq (a : Int) : impl_LabelName.f a = some (nameS a) := rfl

/-! impl_textOf -/
theorem joinS_eq : ∀ l : List ByteArray, joinS ⟨#[32]⟩ l = joinB l
  | [] => rfl
  | [x] => rfl
  | x :: y :: l => by simp only [joinS, joinB]; rw [joinS_eq (y :: l)]
theorem joinB_len : ∀ l : List ByteArray, l.length ≤ l.length := fun _ => Nat.le_refl _
theorem textOf_end (l : List S65) (hl : l.length ≤ 1048576) (ht : treeP (lab l) (dep l) l.length) (i : Nat) (hi : i < l.length) : Ev (fun k => impl_textOf.l0 k l i ((kidsI (dep l) l.length i).map fun x => subText (lab l) (dep l) l.length x.toNat) (kidsI (dep l) l.length i) ((kidsI (dep l) l.length i).length : Int) ((kidsI (dep l) l.length i).length : Int)) (subText (lab l) (dep l) l.length i) := by
  have hn := ht.1
  have hel := endI_le (dep l) l.length i hi
  have hq := subText_eq ht hi
  have hkl : (kidsI (dep l) l.length i).length ≤ 24 := by
    have := kidGo_len (dep l) (dep l i + 1) (endI (dep l) l.length i - (i + 1)) (i + 1)
    unfold kidsI; omega
  have hsz : (subText (lab l) (dep l) l.length i).size ≤ 500 := by
    have h1 := treeText_size ht (i + 1) (endI (dep l) l.length i) hel.2
    have h2 := nameB_size (lab l i)
    have h3 := dep_all ht (endI (dep l) l.length i - 1)
    have h4 := dep_all ht i
    unfold subText
    rw [ByteArray.size_append, ByteArray.size_append, closeN_size]; omega
  have c1 : (0 : Int) ≤ (i : Int) := Int.natCast_nonneg _
  have c2 : (i : Int) < (l.length : Int) := by omega
  refine Ev.step (fun k => by rw [impl_textOf.l0, if_neg (Int.lt_irrefl _), if_pos c1, if_pos c2, rdN, impl_LabelName_eq, Option.bind_some]) ?_
  by_cases h : kidsI (dep l) l.length i = []
  · rw [if_pos h] at hq
    rw [hq, h]
    simp only [List.map_nil, List.length_nil]
    rw [if_neg (by decide)]
    exact evSome rfl
  · rw [if_neg h] at hq
    have hpos : 0 < (kidsI (dep l) l.length i).length := List.length_pos_iff.2 h
    generalize hJ : (kidsI (dep l) l.length i).map (fun x => subText (lab l) (dep l) l.length x.toNat) = J at hq ⊢
    have hJl : J.length = (kidsI (dep l) l.length i).length := by rw [← hJ, List.length_map]
    have c3 : ((J.length : Nat) : Int) > 0 := by omega
    have hs2 : (nameB (lab l i) ++ ((⟨#[40]⟩ ++ joinB J) ++ ⟨#[41]⟩)).size ≤ 500 := by rw [← hq]; exact hsz
    have hs3 : (nameB (lab l i)).size + ((1 + (joinB J).size) + 1) ≤ 500 := by
      rw [ByteArray.size_append, ByteArray.size_append, ByteArray.size_append] at hs2
      exact hs2
    have hf : strings_Join.f J ⟨#[32]⟩ = some (joinB J) := by
      unfold strings_Join.f
      rw [joinS_eq, if_pos ⟨by omega, by omega⟩]
    rw [if_pos c3, hf, Option.bind_some, if_pos (by omega)]
    have e1 : ((⟨#[40]⟩ : ByteArray) ++ joinB J).size = 1 + (joinB J).size := by rw [ByteArray.size_append]; rfl
    have e2 : (((⟨#[40]⟩ : ByteArray) ++ joinB J) ++ (⟨#[41]⟩ : ByteArray)).size = 1 + (joinB J).size + 1 := by rw [ByteArray.size_append, e1]; rfl
    have e3 : (nameS (l.getD i z65).f0).size = (nameB (lab l i)).size := rfl
    rw [e1, if_pos (by omega), e2, e3, if_pos (by omega)]
    exact evSome (by rw [hq]; rfl)
theorem step64 (j : Nat) (h : j ≤ 1000000) : wrap64 ((j : Int) + 1) = ((j + 1 : Nat) : Int) := by rw [w64 (by omega) (by omega)]; rfl
theorem ar1 {a c e n : Nat} (h2 : c < a + (e - a)) (h3 : a ≤ e) (h4 : e ≤ n) : c < e ∧ c < n := by omega
theorem ar2 {i c ec ei d : Nat} (h1 : i + 1 ≤ c) (hm : ec ≤ ei) (hd : ei - i ≤ d + 1) (hcl : c + 1 ≤ ec) : ec - c ≤ d := by omega
theorem impl_textOf_ev (l : List S65) (hl : l.length ≤ 1048576) (ht : treeP (lab l) (dep l) l.length) (d : Nat) : ∀ i : Nat, i < l.length → endI (dep l) l.length i - i ≤ d → Ev (fun k => impl_textOf.f k l i) (subText (lab l) (dep l) l.length i) := by
  have hn := ht.1
  induction d with
  | zero => intro i hi hd; have := endI_le (dep l) l.length i hi; omega
  | succ d ih =>
    intro i hi hd
    have hel := endI_le (dep l) l.length i hi
    have hat : atB (lab l) (dep l) l.length (i : Int) = true := atB_iff.2 ⟨ht, by omega, by omega⟩
    have hkl : (kidsI (dep l) l.length i).length ≤ 24 := by
      have := kidGo_len (dep l) (dep l i + 1) (endI (dep l) l.length i - (i + 1)) (i + 1)
      unfold kidsI; omega
    have loop : ∀ (e j : Nat) (acc : List ByteArray), j + e = (kidsI (dep l) l.length i).length → acc = ((kidsI (dep l) l.length i).take j).map (fun x => subText (lab l) (dep l) l.length x.toNat) →
        Ev (fun k => impl_textOf.l0 k l i acc (kidsI (dep l) l.length i) ((kidsI (dep l) l.length i).length : Int) j) (subText (lab l) (dep l) l.length i) := by
      intro e
      induction e with
      | zero =>
        intro j acc hj ha
        rw [ha, List.take_of_length_le (by omega), show j = (kidsI (dep l) l.length i).length by omega]
        exact textOf_end l hl ht i hi
      | succ e ihe =>
        intro j acc hj ha
        have hjl : j < (kidsI (dep l) l.length i).length := by omega
        have c0 : (j : Int) < ((kidsI (dep l) l.length i).length : Int) := by omega
        have c1 : (0 : Int) ≤ (j : Int) := Int.natCast_nonneg _
        have hmem := List.getElem_mem hjl
        obtain ⟨c, hc, hc1, hc2, hc3⟩ := (kidGo_mem _ _ _ _ _).1 (show (kidsI (dep l) l.length i)[j] ∈ kidGo (dep l) (dep l i + 1) (endI (dep l) l.length i - (i + 1)) (i + 1) from hmem)
        have e1 : rd (kidsI (dep l) l.length i) (j : Int) = (c : Int) := by
          unfold rd
          rw [Int.toNat_natCast, List.getD_eq_getElem?_getD, List.getElem?_eq_getElem hjl, ← hc]; rfl
        have hm := end_mono (dep := dep l) (n := l.length) (i := i) (p := c) hi hc1 (ar1 hc2 hel.1 hel.2).1
        have hcl := endI_le (dep l) l.length c (ar1 hc2 hel.1 hel.2).2
        have e4 : wrap64 ((j : Int) + 1) = ((j + 1 : Nat) : Int) := step64 j (Nat.le_trans (Nat.le_of_lt hjl) (Nat.le_trans hkl (by decide)))
        have hal : acc.length < 8796093022208 := Nat.lt_of_le_of_lt (by rw [ha, List.length_map]; exact Nat.le_trans (List.length_take_le' j _) hkl) (show 24 < 8796093022208 by decide)
        refine Ev.step (fun k => by rw [impl_textOf.l0, if_pos c0, if_pos c1, if_pos c0, e1, e4]) ?_
        refine Ev.bind (ih c (ar1 hc2 hel.1 hel.2).2 (ar2 hc1 hm hd hcl.1)) ?_
        simp only [if_pos hal]
        refine ihe (j + 1) _ (by rw [← hj]; exact Nat.add_right_comm j 1 e) ?_
        rw [ha, List.take_succ_eq_append_getElem hjl, List.map_append, List.map_cons, List.map_nil, hc, Int.toNat_natCast]
    refine Ev.step (fun k => by rw [impl_textOf.f]) ?_
    refine Ev.bind (impl_KidsOf_ev l hl (i : Int)) ?_
    simp only [if_pos hat, Int.toNat_natCast]
    exact loop (kidsI (dep l) l.length i).length 0 [] (by omega) rfl

/-! impl_TreeText -/
theorem impl_TreeText_ev (l : List S65) (hl : l.length ≤ 1048576) : Ev (fun k => impl_TreeText.f k l) (treeText l) := by
  unfold impl_TreeText.f
  refine Ev.bind (impl_TreeOk_ev l hl) ?_
  by_cases h : treeB (lab l) (dep l) l.length = true
  · have ht := treeB_iff.1 h
    simp only [if_pos h]
    have := impl_textOf_ev l hl ht (endI (dep l) l.length 0 - 0) 0 (by have := ht.1; omega) (Nat.le_refl _)
    rw [treeText_sub ht] at this
    exact Ev.bind this (Ev.now _)
  · simp only [if_neg h]
    unfold treeText
    rw [if_neg h]
    exact Ev.now _

/-! laws_eqNodeS -/
theorem eqNodeS_l0 (l : List S65) (hl : l.length ≤ 1048576) (d : Nat) : ∀ i : Nat, i + d = l.length → Ev (fun k => laws_eqNodeS.l0 k l l i) true := by
  induction d with
  | zero => intro i hi; exact Ev.step (fun k => by simp only [laws_eqNodeS.l0]; rw [if_neg (by omega)]) (Ev.now _)
  | succ d ih =>
    intro i hi
    have e4 : wrap64 ((i : Int) + 1) = ((i + 1 : Nat) : Int) := by rw [w64 (by omega) (by omega)]; rfl
    refine Ev.step (fun k => by simp only [laws_eqNodeS.l0]; rw [if_pos (by omega), if_pos (by omega), if_pos (by omega)]) ?_
    simp only [laws_eqNode.f, if_true, Option.bind_some, e4]
    exact ih (i + 1) (by omega)
theorem eqNodeS_ev (l : List S65) (hl : l.length ≤ 1048576) : Ev (fun k => laws_eqNodeS.f k l l) true := by
  unfold laws_eqNodeS.f
  simp only [if_true]
  exact eqNodeS_l0 l hl l.length 0 (by omega)

-- imports: Q
theorem law : ∀ (l0 : List S67), l0.length ≤ maxLen → (∀ x ∈ l0, (Lit.int .i64 x.f0).wf = true ∧ (Lit.int .i64 x.f1).wf = true) → ∃ k, laws_FnExactTreeText.f k l0 = some true := by
  intro l0  hl0 _ 
  refine Ev.rounds ?_
  unfold laws_FnExactTreeText.f
  simp only [sz_eq l0 hl0 1048576 (by omega) (by omega), Option.bind_some]
  by_cases h : (1048576 : Int) < l0.length
  · simp only [if_pos h]; exact Ev.now _
  · have hl : (l0.map conv).length ≤ 1048576 := by simp; omega
    simp only [if_neg h, if_neg (show ¬ (1048576 - (l0.length : Int) < 0) by omega)]
    refine Ev.bind (toNodeS_ev l0 (by omega)) (Ev.bind (spec_TreeText_ev _ hl) (Ev.bind (toNodeS_ev l0 (by omega)) (Ev.bind (impl_TreeText_ev _ hl) ?_)))
    simp only [if_true]
    refine Ev.bind (toNodeS_ev l0 (by omega)) (Ev.bind (eqNodeS_ev _ hl) ?_)
    simp only [if_true]
    exact Ev.now _

end Go.Proofs.Ytbdjconojnjgdaa.PureFnExactTreeText
namespace Go.Proofs.Ytbdjconojnjgdaa.Pure
open Go.RowKit Go.Proofs.Ytbdjconojnjgdaa.HFnExactTreeText
theorem FnExactTreeText : ∀ (l0 : List S67), l0.length ≤ maxLen → (∀ x ∈ l0, (Lit.int .i64 x.f0).wf = true ∧ (Lit.int .i64 x.f1).wf = true) → ∃ k, laws_FnExactTreeText.f k l0 = some true := Go.Proofs.Ytbdjconojnjgdaa.PureFnExactTreeText.law
end Go.Proofs.Ytbdjconojnjgdaa.Pure
