/- Plain facts about a tree's text: the scan from node to node, and a node's text out of those of its children. Conditions: those that each lemma names. -/
import Derived.Test.YtbdjconojnjgdaaM
import Derived.Test.YtbdjconojnjgdaaMB
import Derived.Test.YtbdjconojnjgdaaT
import Derived.Test.YtbdjconojnjgdaaTB
namespace Go.Proofs.Ytbdjconojnjgdaa.T
open Go.RowKit Go.Proofs.YtbdjconojnjgdaaW.PrintWords Go.Proofs.YtbdjconojnjgdaaW.PrintMore Go.Proofs.Ytbdjconojnjgdaa.M
set_option linter.unusedVariables false
set_option linter.unusedSimpArgs false

abbrev nilB : ByteArray := ⟨#[]⟩
theorem nil_app (s : ByteArray) : nilB ++ s = s := by
  apply ba_ext; rw [toList_data, toList_data, ByteArray.data_append]; simp
theorem app_nil (s : ByteArray) : s ++ nilB = s := by
  apply ba_ext; rw [toList_data, toList_data, ByteArray.data_append]; simp
theorem size_nil : nilB.size = 0 := rfl
/-- So many closing brackets. -/
def closeN : Nat → ByteArray
  | 0 => nilB
  | n + 1 => closeN n ++ ⟨#[41]⟩
theorem closeN_size (n : Nat) : (closeN n).size = n := by
  induction n with
  | zero => rfl
  | succ n ih => simp only [closeN, ByteArray.size_append, ih]; rfl
theorem closeN_step (n : Nat) (s : ByteArray) : s ++ closeN (n + 1) = s ++ closeN n ++ ⟨#[41]⟩ := by simp only [closeN, ByteArray.append_assoc]
/-- A label's name. -/
def nameB (a0 : Int) : ByteArray := if a0 = 0 then ⟨#[100, 105, 118]⟩ else if a0 = 1 then ⟨#[112]⟩ else if a0 = 2 then ⟨#[97]⟩ else if a0 = 3 then ⟨#[117, 108]⟩ else if a0 = 4 then ⟨#[108, 105]⟩ else if a0 = 5 then ⟨#[98]⟩ else ⟨#[]⟩
theorem nameB_size (a : Int) : (nameB a).size ≤ 3 := by
  unfold nameB
  split
  · decide
  split
  · decide
  split
  · decide
  split
  · decide
  split
  · decide
  split
  · decide
  · decide
/-- What stands ahead of node j's name, j not the first. -/
def sepB (dep : Nat → Int) (j : Nat) : ByteArray := closeN (dep (j - 1) - dep j).toNat ++ (if dep j > dep (j - 1) then ⟨#[40]⟩ else ⟨#[32]⟩)
/-- The nodes from place j on, d of them. -/
def textGo (lab dep : Nat → Int) : Nat → Nat → ByteArray
  | 0, _ => nilB
  | d + 1, j => sepB dep j ++ (nameB (lab j) ++ textGo lab dep d (j + 1))
def textTo (lab dep : Nat → Int) (a b : Nat) : ByteArray := textGo lab dep (b - a) a
theorem textTo_nil (lab dep : Nat → Int) (a : Nat) : textTo lab dep a a = nilB := by unfold textTo; rw [Nat.sub_self]; rfl
theorem textTo_cons (lab dep : Nat → Int) (a b : Nat) (h : a < b) : textTo lab dep a b = sepB dep a ++ (nameB (lab a) ++ textTo lab dep (a + 1) b) := by
  unfold textTo
  rw [show b - a = (b - (a + 1)) + 1 by omega]; rfl
theorem textTo_app (lab dep : Nat → Int) (b c : Nat) (hbc : b ≤ c) : ∀ (d a : Nat), a + d = b → textTo lab dep a c = textTo lab dep a b ++ textTo lab dep b c := by
  intro d
  induction d with
  | zero => intro a h; have : a = b := by omega
            subst this; rw [textTo_nil, nil_app]
  | succ d ih =>
    intro a h
    rw [textTo_cons lab dep a c (by omega), textTo_cons lab dep a b (by omega), ih (a + 1) (by omega)]
    simp only [ByteArray.append_assoc]
theorem textTo_snoc (lab dep : Nat → Int) (a b : Nat) (h : a ≤ b) : textTo lab dep a (b + 1) = textTo lab dep a b ++ (sepB dep b ++ nameB (lab b)) := by
  rw [textTo_app lab dep b (b + 1) (by omega) (b - a) a (by omega), textTo_cons lab dep b (b + 1) (by omega), textTo_nil, app_nil]
/-- The text of what is under node i, and of itself. -/
def subText (lab dep : Nat → Int) (n i : Nat) : ByteArray := nameB (lab i) ++ (textTo lab dep (i + 1) (endI dep n i) ++ closeN (dep (endI dep n i - 1) - dep i).toNat)
/-- Parts with a space between. -/
def joinB : List ByteArray → ByteArray
  | [] => nilB
  | [x] => x
  | x :: y :: l => x ++ (⟨#[32]⟩ ++ joinB (y :: l))
theorem joinB_cons (x : ByteArray) (l : List ByteArray) (h : l ≠ []) : joinB (x :: l) = x ++ (⟨#[32]⟩ ++ joinB l) := by
  cases l with
  | nil => exact absurd rfl h
  | cons y l => rfl
theorem kids_text {lab dep : Nat → Int} {n i : Nat} (ht : treeP lab dep n) (hi : i < n) (d : Nat) : ∀ p : Nat, endI dep n i - p ≤ d → i < p → p < endI dep n i → dep p = dep i + 1 →
    joinB ((kidGo dep (dep i + 1) (endI dep n i - p) p).map fun x => subText lab dep n x.toNat) = nameB (lab p) ++ (textTo lab dep (p + 1) (endI dep n i) ++ closeN (dep (endI dep n i - 1) - dep i - 1).toNat) := by
  induction d with
  | zero => intro p h1 h2 h3 _; omega
  | succ d ih =>
    intro p h1 h2 h3 hd
    have hel := endI_le dep n i hi
    have hpl := endI_le dep n p (by omega)
    have hm := end_mono (dep := dep) (n := n) (i := i) (p := p) hi h2 h3
    rw [kids_next ht hi h2 h3 hd, List.map_cons, Int.toNat_natCast]
    by_cases e : endI dep n p = endI dep n i
    · rw [e, Nat.sub_self]
      simp only [kidGo, List.map_nil, joinB]
      unfold subText
      rw [e, show dep (endI dep n i - 1) - dep p = dep (endI dep n i - 1) - dep i - 1 by omega]
    · have hq : endI dep n p < endI dep n i := by omega
      have hdq : dep (endI dep n p) = dep i + 1 := kid_here ht hi (by omega) hq (.inr ⟨p, by omega, hd, rfl⟩)
      have hne : (kidGo dep (dep i + 1) (endI dep n i - endI dep n p) (endI dep n p)).map (fun x => subText lab dep n x.toNat) ≠ [] := by
        rw [kids_next ht hi (by omega) hq hdq]; simp
      rw [joinB_cons _ _ hne, ih (endI dep n p) (by omega) (by omega) hq hdq]
      have hlast : dep p ≤ dep (endI dep n p - 1) := by
        by_cases c : endI dep n p - 1 = p
        · rw [c]; omega
        · have := endI_in (dep := dep) (n := n) (i := p) (k := endI dep n p - 1) (by omega) (by omega); omega
      have hs : sepB dep (endI dep n p) = closeN (dep (endI dep n p - 1) - dep p).toNat ++ ⟨#[32]⟩ := by
        unfold sepB
        rw [if_neg (by omega), show dep (endI dep n p - 1) - dep (endI dep n p) = dep (endI dep n p - 1) - dep p by omega]
      rw [textTo_app lab dep (endI dep n p) (endI dep n i) hm (endI dep n p - (p + 1)) (p + 1) (by omega), textTo_cons lab dep (endI dep n p) (endI dep n i) hq, hs]
      unfold subText
      simp only [ByteArray.append_assoc]
/-- A node's text out of its children's. -/
theorem subText_eq {lab dep : Nat → Int} {n i : Nat} (ht : treeP lab dep n) (hi : i < n) :
    subText lab dep n i = if kidsI dep n i = [] then nameB (lab i) else nameB (lab i) ++ ((⟨#[40]⟩ ++ joinB ((kidsI dep n i).map fun x => subText lab dep n x.toNat)) ++ ⟨#[41]⟩) := by
  have hel := endI_le dep n i hi
  by_cases e : endI dep n i = i + 1
  · have hk : kidsI dep n i = [] := by unfold kidsI; rw [e, Nat.sub_self]; rfl
    rw [if_pos hk]
    unfold subText
    rw [e, textTo_nil, nil_app, Nat.add_sub_cancel, Int.sub_self, show (0 : Int).toNat = 0 from rfl]
    exact app_nil _
  · have hd : dep (i + 1) = dep i + 1 := kid_here ht hi (by omega) (by omega) (.inl rfl)
    have hk := kids_next ht hi (p := i + 1) (by omega) (by omega) hd
    have hne : kidsI dep n i ≠ [] := by unfold kidsI; rw [hk]; simp
    rw [if_neg hne]
    have hj := kids_text ht hi (endI dep n i - (i + 1)) (i + 1) (Nat.le_refl _) (by omega) (by omega) hd
    unfold kidsI
    rw [hj]
    unfold subText
    have hlast : dep i + 1 ≤ dep (endI dep n i - 1) := by
      have := endI_in (dep := dep) (n := n) (i := i) (k := endI dep n i - 1) (by omega) (by omega); omega
    have hs : sepB dep (i + 1) = ⟨#[40]⟩ := by
      unfold sepB
      rw [Nat.add_sub_cancel, if_pos (by omega), show (dep i - dep (i + 1)).toNat = 0 by omega]
      exact nil_app _
    rw [textTo_cons lab dep (i + 1) (endI dep n i) (by omega), hs, show (dep (endI dep n i - 1) - dep i).toNat = (dep (endI dep n i - 1) - dep i - 1).toNat + 1 by omega]
    simp only [closeN, ByteArray.append_assoc]
/-- The text of the nodes, and how long it can be. -/
theorem textTo_size (lab dep : Nat → Int) (hd : ∀ j, 0 ≤ dep j ∧ dep j ≤ 12) (d : Nat) : ∀ a, (textGo lab dep d a).size ≤ 16 * d := by
  induction d with
  | zero => intro a; exact Nat.le_refl _
  | succ d ih =>
    intro a
    have h1 := ih (a + 1)
    have h2 := nameB_size (lab a)
    have h3 := hd a
    have h4 := hd (a - 1)
    have h5 : (sepB dep a).size ≤ 13 := by
      unfold sepB
      rw [ByteArray.size_append, closeN_size]
      have : (if dep a > dep (a - 1) then (⟨#[40]⟩ : ByteArray) else ⟨#[32]⟩).size = 1 := by split <;> rfl
      omega
    simp only [textGo, ByteArray.size_append]
    omega
end Go.Proofs.Ytbdjconojnjgdaa.T
