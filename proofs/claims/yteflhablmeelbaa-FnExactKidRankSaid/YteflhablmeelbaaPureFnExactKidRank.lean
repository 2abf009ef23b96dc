/- For every list of nodes and every place, the program's KidRank and the reference's KidRank answer the same. Condition: none but the model's own bounds. -/
import Derived.Test.YteflhablmeelbaaPFnExactKidRankx5
import Derived.Test.YteflhablmeelbaaM
import Derived.Test.YteflhablmeelbaaT
namespace Go.Proofs.Yteflhablmeelbaa.PureFnExactKidRank
open Go.RowKit Go.Proofs.Yteflhablmeelbaa.PFnExactKidRank Go.Proofs.YteflhablmeelbaaW.PrintWords Go.Proofs.YteflhablmeelbaaW.PrintLast Go.Proofs.YteflhablmeelbaaW.PrintMore Go.Proofs.Yteflhablmeelbaa.M Go.Proofs.Yteflhablmeelbaa.T
set_option linter.unusedVariables false
set_option linter.unusedSimpArgs false

abbrev lab (l : List S64) (i : Nat) : Int := (l.getD i z64).f0
abbrev dep (l : List S64) (i : Nat) : Int := (l.getD i z64).f1
theorem rdN (l : List S64) (i : Nat) : rd_T64 l (i : Int) = l.getD i z64 := by unfold rd_T64; simp

/-! laws_szNodeS -/
theorem sz_eq (l : List S66) (hl : l.length ≤ maxLen) (a : Int) (h0 : 0 ≤ a) (h1 : a ≤ 1048576) : laws_szNodeS.f l a = some (if a < l.length then -1 else a - l.length) := by
  have hm : maxLen = 9223372036854775807 := rfl
  unfold laws_szNodeS.f
  rw [w64 (by omega) (by omega)]
  by_cases h : a < l.length
  · rw [if_pos h, if_pos (by omega)]
  · rw [if_neg h, if_neg (by omega)]

/-! laws_toNodeS -/
def conv (x : S66) : S64 := ⟨x.f0, x.f1⟩
theorem set_grow (xs : List S64) (i : Nat) (x : S64) (m : Nat) (h : xs.length = i) : (xs ++ List.replicate (m + 1) z64).set i x = (xs ++ [x]) ++ List.replicate m z64 := by
  rw [List.set_append_right _ _ (by omega), List.replicate_succ]
  simp [h]
theorem toNodeS_l0 (l : List S66) (hl : l.length ≤ 1048576) (d : Nat) : ∀ i : Nat, i + d = l.length → Ev (fun k => laws_toNodeS.l0 k l ((l.take i).map conv ++ List.replicate d z64) i) (l.map conv) := by
  induction d with
  | zero =>
    intro i hi
    refine Ev.step (fun k => by simp only [laws_toNodeS.l0]; rw [if_neg (by omega)]) ?_
    have e : i = l.length := by omega
    subst e
    exact evSome (by simp)
  | succ d ih =>
    intro i hi
    have c3 : (i : Int) < ((((l.take i).map conv ++ List.replicate (d + 1) z64).length : Nat) : Int) := by simp; omega
    have e4 : wrap64 ((i : Int) + 1) = ((i + 1 : Nat) : Int) := by rw [w64 (by omega) (by omega)]; rfl
    refine Ev.step (fun k => by simp only [laws_toNodeS.l0]; rw [if_pos (by omega), if_pos (by omega)]) ?_
    simp only [laws_toNode.f, Option.bind_some, if_pos c3, e4, Int.toNat_natCast]
    rw [set_grow _ _ _ _ (by simp; omega)]
    have := ih (i + 1) (by omega)
    have hil : i < l.length := by omega
    rw [List.take_succ_eq_append_getElem hil, List.map_append] at this
    have er : rd_T66 l (i : Int) = l[i] := by unfold rd_T66; simp [List.getD_eq_getElem?_getD, List.getElem?_eq_getElem hil]
    rw [er]
    exact this
theorem toNodeS_ev (l : List S66) (hl : l.length ≤ 1048576) : Ev (fun k => laws_toNodeS.f k l) (l.map conv) := by
  unfold laws_toNodeS.f
  have := toNodeS_l0 l hl l.length 0 (by omega)
  simp only [Int.toNat_natCast, if_pos (show (0 : Int) ≤ (l.length : Int) by omega), if_pos (show l.length ≤ 17592186044416 by omega)]
  simpa using this

/-! laws_eqNodeS -/
theorem eqNodeS_l0 (l : List S64) (hl : l.length ≤ 1048576) (d : Nat) : ∀ i : Nat, i + d = l.length → Ev (fun k => laws_eqNodeS.l0 k l l i) true := by
  induction d with
  | zero => intro i hi; exact Ev.step (fun k => by simp only [laws_eqNodeS.l0]; rw [if_neg (by omega)]) (Ev.now _)
  | succ d ih =>
    intro i hi
    have e4 : wrap64 ((i : Int) + 1) = ((i + 1 : Nat) : Int) := by rw [w64 (by omega) (by omega)]; rfl
    refine Ev.step (fun k => by simp only [laws_eqNodeS.l0]; rw [if_pos (by omega), if_pos (by omega), if_pos (by omega)]) ?_
    simp only [laws_eqNode.f, if_true, Option.bind_some, e4]
    exact ih (i + 1) (by omega)
theorem eqNodeS_ev (l : List S64) (hl : l.length ≤ 1048576) : Ev (fun k => laws_eqNodeS.f k l l) true := by
  unfold laws_eqNodeS.f
  simp only [if_true]
  exact eqNodeS_l0 l hl l.length 0 (by omega)

/-! spec_l1In -/
theorem spec_l1In_eq (a b c : Int) : spec_l1In.f a b c = some (decide (b ≤ a ∧ a ≤ c)) := by
  unfold spec_l1In.f
  by_cases h : b ≤ a
  · rw [if_pos h]; simp [h]
  · rw [if_neg h]; simp [h]

/-! spec_LabelOk -/
theorem spec_LabelOk_eq (a : Int) : spec_LabelOk.f a = some (decide (0 ≤ a ∧ a ≤ 5)) := by
  unfold spec_LabelOk.f; simp only [spec_l1In_eq, Option.bind_some]

/-! spec_TreeOk -/
theorem spec_TreeOk_l0 (l : List S64) (hl : l.length ≤ 1048576) (d : Nat) : ∀ i : Nat, i + d = l.length → (∀ j, j < i → nodeOk (lab l) (dep l) j) → Ev (fun k => spec_TreeOk.l0 k l i) (treeB (lab l) (dep l) l.length) := by
  induction d with
  | zero =>
    intro i hi hall
    refine Ev.step (fun k => by simp only [spec_TreeOk.l0]; rw [if_neg (by omega)]) ?_
    simp only [spec_l1In_eq, Option.bind_some]
    refine evSome ?_
    have e : i = l.length := by omega
    rw [treeB_all (by rw [← e]; exact hall)]
    congr 1; simp; omega
  | succ d ih =>
    intro i hi hall
    have hil : i < l.length := by omega
    have c1 : (i : Int) < (l.length : Int) := by omega
    have c2 : (0 : Int) ≤ (i : Int) := by omega
    refine Ev.step (fun k => by simp only [spec_TreeOk.l0]; rw [if_pos c1, if_pos c2]) ?_
    simp only [spec_LabelOk_eq, spec_l1In_eq, Option.bind_some, rdN, decide_eq_true_eq]
    by_cases h1 : 0 ≤ lab l i ∧ lab l i ≤ 5
    · simp only [if_pos h1]
      by_cases h2 : 0 ≤ dep l i ∧ dep l i ≤ 12
      · simp only [if_pos h2]
        by_cases h0 : i = 0
        · subst h0
          by_cases hz : dep l 0 = 0
          · have hb : ((dep l 0 == 0) != (((0 : Nat) : Int) == 0)) = false := by rw [hz]; rfl
            have hn := ih 1 (by omega) (fun j hj => by
              have : j = 0 := by omega
              subst this; exact ⟨h1.1, h1.2, h2.1, h2.2, fun _ => hz, fun h => by omega⟩)
            have e4 : wrap64 (((0 : Nat) : Int) + 1) = ((1 : Nat) : Int) := by rw [w64 (by omega) (by omega)]; rfl
            simp only [hb, Bool.false_eq_true, if_false, e4, if_neg (show ¬ ((0 : Nat) : Int) > 0 by omega)]
            exact hn
          · have hb : ((dep l 0 == 0) != (((0 : Nat) : Int) == 0)) = true := by simp [hz]
            simp only [hb, if_true]
            refine evSome (treeB_no hil ?_).symm
            intro h; exact hz (h.2.2.2.2.1 rfl)
        · have hiz : ((i : Int) == 0) = false := by simp; omega
          by_cases hz : dep l i = 0
          · have hb : ((dep l i == 0) != ((i : Int) == 0)) = true := by rw [hiz, hz]; rfl
            simp only [hb, if_true]
            refine evSome (treeB_no hil ?_).symm
            intro h; have := h.2.2.2.2.2 (by omega); omega
          · have hb : ((dep l i == 0) != ((i : Int) == 0)) = false := by rw [hiz]; simp [hz]
            have hp := hall (i - 1) (by omega)
            have hpr : 0 ≤ dep l (i - 1) ∧ dep l (i - 1) ≤ 12 := ⟨hp.2.2.1, hp.2.2.2.1⟩
            have hn : (1 ≤ dep l i ∧ dep l i ≤ dep l (i - 1) + 1) → _ := fun hd => ih (i + 1) (by omega) (fun j hj => by
              by_cases hji : j < i
              · exact hall j hji
              · have : j = i := by omega
                subst this; exact ⟨h1.1, h1.2, h2.1, h2.2, fun h => by omega, fun _ => hd⟩)
            have e3 : wrap64 ((i : Int) - 1) = ((i - 1 : Nat) : Int) := by rw [w64 (by omega) (by omega)]; omega
            have e4 : wrap64 ((i : Int) + 1) = ((i + 1 : Nat) : Int) := by rw [w64 (by omega) (by omega)]; rfl
            have c5 : (0 : Int) ≤ ((i - 1 : Nat) : Int) := by omega
            have c6 : ((i - 1 : Nat) : Int) < (l.length : Int) := by omega
            have e5 : wrap64 (dep l (i - 1) + 1) = dep l (i - 1) + 1 := w64 (by omega) (by omega)
            simp only [hb, Bool.false_eq_true, if_false, e3, e4, if_pos (show (i : Int) > 0 by omega), if_pos c5, if_pos c6, rdN, e5]
            by_cases hd : dep l i > dep l (i - 1) + 1
            · simp only [if_pos hd]
              refine evSome (treeB_no hil ?_).symm
              intro h; have := (h.2.2.2.2.2 (by omega)).2; omega
            · simp only [if_neg hd]
              exact hn ⟨by omega, by omega⟩
      · simp only [if_neg h2]
        exact evSome (treeB_no hil (fun h => h2 ⟨h.2.2.1, h.2.2.2.1⟩)).symm
    · simp only [if_neg h1]
      exact evSome (treeB_no hil (fun h => h1 ⟨h.1, h.2.1⟩)).symm
theorem spec_TreeOk_ev (l : List S64) (hl : l.length ≤ 1048576) : Ev (fun k => spec_TreeOk.f k l) (treeB (lab l) (dep l) l.length) :=
  spec_TreeOk_l0 l hl l.length 0 (by omega) (fun j hj => by omega)

/-! spec_l3At -/
theorem spec_l3At_ev (l : List S64) (hl : l.length ≤ 1048576) (a : Int) : Ev (fun k => spec_l3At.f k l a) (atB (lab l) (dep l) l.length a) := by
  unfold spec_l3At.f
  refine Ev.bind (spec_TreeOk_ev l hl) ?_
  have e : wrap64 ((l.length : Int) - 1) = (l.length : Int) - 1 := w64 (by omega) (by omega)
  simp only [spec_l1In_eq, Option.bind_some, e, atB]
  by_cases h : treeB (lab l) (dep l) l.length = true
  · simp only [h, if_true, Bool.true_and]; exact Ev.now _
  · simp only [Bool.eq_false_iff.mpr h, Bool.false_eq_true, if_false, Bool.false_and]; exact Ev.now _

/-! spec_EndOf -/
theorem spec_EndOf_l0 (l : List S64) (hl : l.length ≤ 1048576) (i : Nat) (hi : i < l.length) (d : Nat) : ∀ j : Nat, j + d = l.length → Ev (fun k => spec_EndOf.l0 k l i j) ((endGo (dep l) (dep l i) d j : Nat) : Int) := by
  induction d with
  | zero =>
    intro j hj
    exact Ev.step (f := fun _ => some ((j : Nat) : Int)) (fun k => by simp only [spec_EndOf.l0]; rw [if_neg (by omega)]) (Ev.now _)
  | succ d ih =>
    intro j hj
    have c1 : (j : Int) < (l.length : Int) := by omega
    have c2 : (0 : Int) ≤ (j : Int) := by omega
    have c3 : (0 : Int) ≤ (i : Int) := by omega
    have c4 : (i : Int) < (l.length : Int) := by omega
    have e4 : wrap64 ((j : Int) + 1) = ((j + 1 : Nat) : Int) := by rw [w64 (by omega) (by omega)]; rfl
    refine Ev.step (fun k => by simp only [spec_EndOf.l0]; rw [if_pos c1, if_pos c2, if_pos c3, if_pos c4, e4, rdN, rdN]) ?_
    simp only [endGo]
    by_cases h : dep l j > dep l i
    · simp only [if_pos h]; exact ih (j + 1) (by omega)
    · simp only [if_neg h]; exact Ev.now _

theorem spec_EndOf_ev (l : List S64) (hl : l.length ≤ 1048576) (a : Int) : Ev (fun k => spec_EndOf.f k l a) (if atB (lab l) (dep l) l.length a = true then ((endI (dep l) l.length a.toNat : Nat) : Int) else -1) := by
  unfold spec_EndOf.f
  refine Ev.bind (spec_l3At_ev l hl a) ?_
  by_cases h : atB (lab l) (dep l) l.length a = true
  · obtain ⟨i, rfl, hi, _⟩ := atB_nat h
    have e4 : wrap64 ((i : Int) + 1) = ((i + 1 : Nat) : Int) := by rw [w64 (by omega) (by omega)]; rfl
    simp only [if_pos h, e4, Int.toNat_natCast]
    exact spec_EndOf_l0 l hl i hi (l.length - (i + 1)) (i + 1) (by omega)
  · simp only [if_neg h]; exact Ev.now _

/-! spec_KidsOf -/
theorem spec_KidsOf_l0 (l : List S64) (hl : l.length ≤ 1048576) (i : Nat) (hat : atB (lab l) (dep l) l.length i = true) (d : Nat) : ∀ (j : Nat) (acc : List Int), j + d = endI (dep l) l.length i → acc.length ≤ j → Ev (fun k => spec_KidsOf.l0 k l i acc j) (acc ++ kidGo (dep l) (dep l i + 1) d j) := by
  obtain ⟨i', hi', hi, ht⟩ := atB_nat hat
  have hii : i' = i := by omega
  rw [hii] at hi
  clear hi' hii
  have hel := endI_le (dep l) l.length i hi
  have hdr := dep_range ht hi
  have e5 : wrap64 (dep l i + 1) = dep l i + 1 := w64 (by omega) (by omega)
  induction d with
  | zero =>
    intro j acc hj ha
    refine Ev.step (fun k => by rw [spec_KidsOf.l0]) ?_
    refine Ev.bind (spec_l3At_ev l hl _) ?_
    simp only [if_pos hat]
    refine Ev.bind (spec_EndOf_ev l hl _) ?_
    simp only [if_pos hat, Int.toNat_natCast]
    rw [decide_eq_false (by omega)]
    refine Ev.step (fun k => by rw [spec_KidsOf.j1]) ?_
    simp only [Bool.false_eq_true, if_false, kidGo, List.append_nil]; exact Ev.now _
  | succ d ih =>
    intro j acc hj ha
    refine Ev.step (fun k => by rw [spec_KidsOf.l0]) ?_
    refine Ev.bind (spec_l3At_ev l hl _) ?_
    simp only [if_pos hat]
    refine Ev.bind (spec_EndOf_ev l hl _) ?_
    simp only [if_pos hat, Int.toNat_natCast]
    rw [decide_eq_true (by omega)]
    have c1 : (j : Int) < (l.length : Int) := by omega
    have c2 : (0 : Int) ≤ (j : Int) := by omega
    have c3 : (0 : Int) ≤ (i : Int) := by omega
    have c4 : (i : Int) < (l.length : Int) := by omega
    have e4 : wrap64 ((j : Int) + 1) = ((j + 1 : Nat) : Int) := by rw [w64 (by omega) (by omega)]; rfl
    refine Ev.step (fun k => by rw [spec_KidsOf.j1]) ?_
    simp only [if_true, if_pos c2, if_pos c1, if_pos c3, if_pos c4, e4, rdN, e5, kidGo]
    by_cases h : dep l j = dep l i + 1
    · have hl1 : acc.length < 17592186044416 := by omega
      simp only [if_pos h, if_pos hl1]
      have := ih (j + 1) (acc ++ [(j : Int)]) (by omega) (by simp; omega)
      simpa only [List.append_assoc, List.cons_append, List.nil_append] using this
    · simp only [if_neg h]
      exact ih (j + 1) acc (by omega) (by omega)

theorem spec_KidsOf_ev (l : List S64) (hl : l.length ≤ 1048576) (a : Int) (hw : -9223372036854775808 ≤ a ∧ a ≤ 9223372036854775807) : Ev (fun k => spec_KidsOf.f k l a) (if atB (lab l) (dep l) l.length a = true then kidsI (dep l) l.length a.toNat else []) := by
  unfold spec_KidsOf.f
  by_cases h : atB (lab l) (dep l) l.length a = true
  · obtain ⟨i, rfl, hi, _⟩ := atB_nat h
    have e4 : wrap64 ((i : Int) + 1) = ((i + 1 : Nat) : Int) := by rw [w64 (by omega) (by omega)]; rfl
    have hel := endI_le (dep l) l.length i hi
    simp only [if_pos h, e4, Int.toNat_natCast]
    have := spec_KidsOf_l0 l hl i h (endI (dep l) l.length i - (i + 1)) (i + 1) [] (by omega) (by simp)
    rw [List.nil_append] at this
    exact this
  · simp only [if_neg h]
    refine Ev.step (fun k => by rw [spec_KidsOf.l0]) ?_
    refine Ev.bind (spec_l3At_ev l hl _) ?_
    simp only [if_neg h]
    refine Ev.step (fun k => by rw [spec_KidsOf.j1]) ?_
    simp only [Bool.false_eq_true, if_false]; exact Ev.now _

/-! spec_ParentOf -/
theorem spec_ParentOf_l0 (l : List S64) (hl : l.length ≤ 1048576) (i : Nat) (hi : i < l.length) : ∀ p : Nat, p ≤ i → Ev (fun k => spec_ParentOf.l0 k l i ((p : Int) - 1)) (parGo (dep l) (dep l i) p) := by
  intro p
  induction p with
  | zero =>
    intro _
    exact Ev.step (f := fun _ => some (-1)) (fun k => by simp only [spec_ParentOf.l0]; rw [if_neg (by omega)]; rfl) (Ev.now _)
  | succ p ih =>
    intro hp
    have e0 : ((p + 1 : Nat) : Int) - 1 = (p : Int) := by omega
    have c1 : (p : Int) ≥ 0 := by omega
    have c2 : (0 : Int) ≤ (p : Int) := by omega
    have c3 : (p : Int) < (l.length : Int) := by omega
    have c4 : (0 : Int) ≤ (i : Int) := by omega
    have c5 : (i : Int) < (l.length : Int) := by omega
    have e4 : wrap64 ((p : Int) - 1) = (p : Int) - 1 := w64 (by omega) (by omega)
    rw [e0]
    refine Ev.step (fun k => by simp only [spec_ParentOf.l0]; rw [if_pos c1, if_pos c2, if_pos c3, if_pos c4, if_pos c5, e4, rdN, rdN]) ?_
    simp only [parGo]
    by_cases h : dep l p ≥ dep l i
    · simp only [if_pos h]; exact ih (by omega)
    · simp only [if_neg h]; exact Ev.now _
theorem spec_ParentOf_ev (l : List S64) (hl : l.length ≤ 1048576) (a : Int) : Ev (fun k => spec_ParentOf.f k l a) (if atB (lab l) (dep l) l.length a = true then parI (dep l) a.toNat else -1) := by
  unfold spec_ParentOf.f
  refine Ev.bind (spec_l3At_ev l hl a) ?_
  by_cases h : atB (lab l) (dep l) l.length a = true
  · obtain ⟨i, rfl, hi, _⟩ := atB_nat h
    have e4 : wrap64 ((i : Int) - 1) = (i : Int) - 1 := w64 (by omega) (by omega)
    simp only [if_pos h, e4, Int.toNat_natCast]
    exact spec_ParentOf_l0 l hl i hi i (Nat.le_refl _)
  · simp only [if_neg h]; exact Ev.now _

/-! spec_KidRank -/
theorem spec_KidRank_l0 (x : Int) (xs : List Int) (hx : xs.length ≤ 1048576) (d : Nat) : ∀ j : Nat, j + d = xs.length → Ev (fun k => spec_KidRank.l0 k x xs j) (idxGo x (xs.drop j) j) := by
  induction d with
  | zero =>
    intro j hj
    rw [List.drop_of_length_le (by omega)]
    exact Ev.step (f := fun _ => some (-1)) (fun k => by simp only [spec_KidRank.l0]; rw [if_neg (by omega)]) (Ev.now _)
  | succ d ih =>
    intro j hj
    have hjl : j < xs.length := by omega
    have c1 : (j : Int) < (xs.length : Int) := by omega
    have c2 : (0 : Int) ≤ (j : Int) := by omega
    have e4 : wrap64 ((j : Int) + 1) = ((j + 1 : Nat) : Int) := by rw [w64 (by omega) (by omega)]; rfl
    have er : rd xs (j : Int) = xs[j] := by unfold rd; simp [List.getD_eq_getElem?_getD, List.getElem?_eq_getElem hjl]
    rw [List.drop_eq_getElem_cons hjl]
    refine Ev.step (fun k => by simp only [spec_KidRank.l0]; rw [if_pos c1, if_pos c2, e4, er]) ?_
    simp only [idxGo]
    by_cases h : x = xs[j]
    · simp only [if_pos h, if_pos h.symm]; exact Ev.now _
    · simp only [if_neg h, if_neg (fun e => h (Eq.symm e))]; exact ih (j + 1) (by omega)
/-- Which child of its parent a node is. -/
def rankT (l : List S64) (a : Int) : Int := if atB (lab l) (dep l) l.length a = true ∧ 0 ≤ parI (dep l) a.toNat then idxGo a (kidsI (dep l) l.length (parI (dep l) a.toNat).toNat) 0 else -1
theorem rankT_yes (l : List S64) (a : Int) (h : atB (lab l) (dep l) l.length a = true) (h0 : 0 ≤ parI (dep l) a.toNat) : rankT l a = idxGo a (kidsI (dep l) l.length (parI (dep l) a.toNat).toNat) 0 := by unfold rankT; rw [if_pos ⟨h, h0⟩]
theorem rankT_no (l : List S64) (a : Int) (h : ¬ (atB (lab l) (dep l) l.length a = true ∧ 0 ≤ parI (dep l) a.toNat)) : rankT l a = -1 := by unfold rankT; rw [if_neg h]
theorem par_at (l : List S64) (a : Int) (h : atB (lab l) (dep l) l.length a = true) (h0 : 0 ≤ parI (dep l) a.toNat) : atB (lab l) (dep l) l.length (parI (dep l) a.toNat) = true := by
  obtain ⟨i, rfl, hi, ht⟩ := atB_nat h
  have := parGo_range (dep l) (dep l i) i
  simp only [Int.toNat_natCast, parI] at h0 ⊢
  exact atB_iff.2 ⟨ht, h0, by omega⟩
theorem kids_small (l : List S64) (i : Nat) (hi : i < l.length) (hl : l.length ≤ 1048576) : (kidsI (dep l) l.length i).length ≤ 1048576 := by
  have := kidGo_len (dep l) (dep l i + 1) (endI (dep l) l.length i - (i + 1)) (i + 1)
  have := endI_le (dep l) l.length i hi
  unfold kidsI; omega
theorem spec_KidRank_ev (l : List S64) (hl : l.length ≤ 1048576) (a : Int) (hw : -9223372036854775808 ≤ a ∧ a ≤ 9223372036854775807) : Ev (fun k => spec_KidRank.f k l a) (rankT l a) := by
  unfold spec_KidRank.f
  refine Ev.bind (spec_ParentOf_ev l hl a) ?_
  by_cases h : atB (lab l) (dep l) l.length a = true
  · by_cases h0 : 0 ≤ parI (dep l) a.toNat
    · have hp := par_at l a h h0
      obtain ⟨i, hi', hi, ht⟩ := atB_nat hp
      rw [rankT_yes l a h h0]
      simp only [if_pos h]
      rw [hi'] at hp ⊢
      simp only [if_neg (show ¬ ((i : Int) < 0) by omega)]
      refine Ev.bind (spec_KidsOf_ev l hl _ (by omega)) ?_
      simp only [if_pos hp, Int.toNat_natCast]
      have := spec_KidRank_l0 a _ (kids_small l i hi hl) _ 0 (Nat.zero_add _)
      simpa using this
    · rw [rankT_no l a (fun e => h0 e.2)]
      simp only [if_pos h, if_pos (show parI (dep l) a.toNat < 0 by omega)]; exact Ev.now _
  · rw [rankT_no l a (fun e => h e.1)]
    simp only [if_neg h]
    exact Ev.now _

/-! impl_endOf -/
theorem impl_endOf_l0 (l : List S64) (hl : l.length ≤ 1048576) (i : Nat) (hi : i < l.length) (d : Nat) : ∀ j : Nat, j + d = l.length → Ev (fun k => impl_endOf.l0 k l i j) ((endGo (dep l) (dep l i) d j : Nat) : Int) := by
  induction d with
  | zero =>
    intro j hj
    exact Ev.step (f := fun _ => some ((j : Nat) : Int)) (fun k => by simp only [impl_endOf.l0]; rw [if_neg (by omega)]) (Ev.now _)
  | succ d ih =>
    intro j hj
    have c1 : (j : Int) < (l.length : Int) := by omega
    have c2 : (0 : Int) ≤ (j : Int) := by omega
    have c3 : (0 : Int) ≤ (i : Int) := by omega
    have c4 : (i : Int) < (l.length : Int) := by omega
    have e4 : wrap64 ((j : Int) + 1) = ((j + 1 : Nat) : Int) := by rw [w64 (by omega) (by omega)]; rfl
    refine Ev.step (fun k => by simp only [impl_endOf.l0]; rw [if_pos c1, if_pos c2, if_pos c3, if_pos c4, e4, rdN, rdN]) ?_
    simp only [endGo]
    by_cases h : dep l j > dep l i
    · simp only [if_pos h]; exact ih (j + 1) (by omega)
    · simp only [if_neg h]; exact Ev.now _

theorem impl_endOf_ev (l : List S64) (hl : l.length ≤ 1048576) (i : Nat) (hi : i < l.length) : Ev (fun k => impl_endOf.f k l i) ((endI (dep l) l.length i : Nat) : Int) := by
  unfold impl_endOf.f
  have e4 : wrap64 ((i : Int) + 1) = ((i + 1 : Nat) : Int) := by rw [w64 (by omega) (by omega)]; rfl
  simp only [e4]
  exact impl_endOf_l0 l hl i hi (l.length - (i + 1)) (i + 1) (by omega)

/-! impl_within -/
theorem impl_within_eq (a b c : Int) : impl_within.f a b c = some (decide (b ≤ a ∧ a ≤ c)) := by
  unfold impl_within.f
  by_cases h : b ≤ a
  · rw [if_pos h]; simp [h]
  · rw [if_neg h]; simp [h]

/-! impl_LabelOk -/
theorem impl_LabelOk_eq (a : Int) : impl_LabelOk.f a = some (decide (0 ≤ a ∧ a ≤ 5)) := by
  unfold impl_LabelOk.f; simp only [impl_within_eq, Option.bind_some]

/-! impl_TreeOk -/
theorem impl_depthOk_eq (l : List S64) (i : Nat) (hi : i < l.length) (hl : l.length ≤ 1048576) (hp : 0 < i → -1 ≤ dep l (i - 1) ∧ dep l (i - 1) ≤ 12) :
    impl_depthOk.f l (i : Int) = some (decide ((i = 0 → dep l i = 0) ∧ (0 < i → 1 ≤ dep l i ∧ dep l i ≤ dep l (i - 1) + 1))) := by
  unfold impl_depthOk.f
  by_cases h0 : i = 0
  · subst h0
    rw [if_pos (show ((0 : Nat) : Int) = 0 by rfl), if_pos (by omega)]
    have : rd_T64 l 0 = l.getD 0 z64 := rdN l 0
    rw [this]
    congr 1
    by_cases hz : dep l 0 = 0
    · rw [decide_eq_true ⟨fun _ => hz, fun h => by omega⟩]; show (dep l 0 == 0) = true; rw [hz]; rfl
    · rw [decide_eq_false (fun h => hz (h.1 rfl))]; show (dep l 0 == 0) = false; exact beq_eq_false_iff_ne.mpr hz
  · have hp := hp (by omega)
    have c3 : ¬ ((i : Int) = 0) := by omega
    have c4 : (0 : Int) ≤ (i : Int) := by omega
    have c5 : (i : Int) < (l.length : Int) := by omega
    have c6 : (0 : Int) ≤ ((i - 1 : Nat) : Int) := by omega
    have c7 : ((i - 1 : Nat) : Int) < (l.length : Int) := by omega
    have e3 : wrap64 ((i : Int) - 1) = ((i - 1 : Nat) : Int) := by rw [w64 (by omega) (by omega)]; omega
    rw [if_neg c3, if_pos c4, if_pos c5, e3, if_pos c6, if_pos c7, rdN, rdN]
    have e5 : wrap64 (dep l (i - 1) + 1) = dep l (i - 1) + 1 := w64 (by omega) (by omega)
    rw [e5, impl_within_eq]
    simp only [Option.bind_some]
    congr 1
    by_cases hz : 1 ≤ dep l i ∧ dep l i ≤ dep l (i - 1) + 1
    · rw [decide_eq_true hz, decide_eq_true ⟨fun h => absurd h h0, fun _ => hz⟩]
    · rw [decide_eq_false hz, decide_eq_false (fun h => hz (h.2 (by omega)))]
theorem impl_TreeOk_l0 (l : List S64) (hl : l.length ≤ 1048576) (hlen : 1 ≤ l.length ∧ l.length ≤ 24) (d : Nat) : ∀ i : Nat, i + d = l.length → (∀ j, j < i → nodeOk (lab l) (dep l) j) → Ev (fun k => impl_TreeOk.l0 k l l l.length i) (treeB (lab l) (dep l) l.length) := by
  induction d with
  | zero =>
    intro i hi hall
    refine Ev.step (fun k => by simp only [impl_TreeOk.l0]; rw [if_neg (by omega)]) ?_
    refine evSome ?_
    have e : i = l.length := by omega
    rw [treeB_all (by rw [← e]; exact hall), decide_eq_true hlen]
  | succ d ih =>
    intro i hi hall
    have hil : i < l.length := by omega
    have c1 : (i : Int) < (l.length : Int) := by omega
    have c2 : (0 : Int) ≤ (i : Int) := by omega
    refine Ev.step (fun k => by simp only [impl_TreeOk.l0]; rw [if_pos c1, if_pos c2, if_pos c1]) ?_
    have hd := impl_depthOk_eq l i hil hl (fun h0 => by
      have hp := hall (i - 1) (by omega)
      have := hp.2.2.1
      exact ⟨by omega, hp.2.2.2.1⟩)
    have e4 : wrap64 ((i : Int) + 1) = ((i + 1 : Nat) : Int) := by rw [w64 (by omega) (by omega)]; rfl
    simp only [impl_LabelOk_eq, impl_within_eq, hd, Option.bind_some, rdN, decide_eq_true_eq, e4]
    by_cases h1 : 0 ≤ lab l i ∧ lab l i ≤ 5
    · simp only [if_pos h1]
      by_cases h2 : 0 ≤ dep l i ∧ dep l i ≤ 12
      · simp only [if_pos h2]
        by_cases h3 : (i = 0 → dep l i = 0) ∧ (0 < i → 1 ≤ dep l i ∧ dep l i ≤ dep l (i - 1) + 1)
        · simp only [if_pos h3]
          refine ih (i + 1) (by omega) (fun j hj => ?_)
          by_cases hji : j < i
          · exact hall j hji
          · have : j = i := by omega
            subst this; exact ⟨h1.1, h1.2, h2.1, h2.2, h3.1, h3.2⟩
        · simp only [if_neg h3]
          exact evSome (treeB_no hil (fun h => h3 ⟨h.2.2.2.2.1, h.2.2.2.2.2⟩)).symm
      · simp only [if_neg h2]
        exact evSome (treeB_no hil (fun h => h2 ⟨h.2.2.1, h.2.2.2.1⟩)).symm
    · simp only [if_neg h1]
      exact evSome (treeB_no hil (fun h => h1 ⟨h.1, h.2.1⟩)).symm
theorem impl_TreeOk_ev (l : List S64) (hl : l.length ≤ 1048576) : Ev (fun k => impl_TreeOk.f k l) (treeB (lab l) (dep l) l.length) := by
  unfold impl_TreeOk.f
  simp only [impl_within_eq, Option.bind_some, decide_eq_true_eq]
  by_cases h : (1 : Int) ≤ (l.length : Int) ∧ (l.length : Int) ≤ 24
  · simp only [if_pos h]
    exact impl_TreeOk_l0 l hl (by omega) l.length 0 (by omega) (fun j hj => by omega)
  · simp only [if_neg h]
    exact evSome (treeB_len (by omega)).symm

/-! impl_hasNode -/
theorem impl_hasNode_ev (l : List S64) (hl : l.length ≤ 1048576) (a : Int) : Ev (fun k => impl_hasNode.f k l a) (atB (lab l) (dep l) l.length a) := by
  unfold impl_hasNode.f
  refine Ev.bind (impl_TreeOk_ev l hl) ?_
  have e : wrap64 ((l.length : Int) - 1) = (l.length : Int) - 1 := w64 (by omega) (by omega)
  simp only [impl_within_eq, Option.bind_some, e, atB]
  by_cases h : treeB (lab l) (dep l) l.length = true
  · simp only [h, if_true, Bool.true_and]; exact Ev.now _
  · simp only [Bool.eq_false_iff.mpr h, Bool.false_eq_true, if_false, Bool.false_and]; exact Ev.now _

/-! impl_KidsOf -/
theorem impl_KidsOf_l0 (l : List S64) (hl : l.length ≤ 1048576) (i : Nat) (hat : atB (lab l) (dep l) l.length i = true) (d : Nat) : ∀ (j : Nat) (acc : List Int), j + d = endI (dep l) l.length i → acc.length ≤ j → Ev (fun k => impl_KidsOf.l0 k l i acc j) (acc ++ kidGo (dep l) (dep l i + 1) d j) := by
  obtain ⟨i', hi', hi, ht⟩ := atB_nat hat
  have hii : i' = i := by omega
  rw [hii] at hi
  clear hi' hii
  have hel := endI_le (dep l) l.length i hi
  have hdr := dep_range ht hi
  have e5 : wrap64 (dep l i + 1) = dep l i + 1 := w64 (by omega) (by omega)
  induction d with
  | zero =>
    intro j acc hj ha
    refine Ev.step (fun k => by rw [impl_KidsOf.l0]) ?_
    refine Ev.bind (impl_endOf_ev l hl i hi) ?_
    have c0 : ¬ ((j : Int) < ((endI (dep l) l.length i : Nat) : Int)) := by omega
    simp only [if_neg c0, kidGo, List.append_nil]; exact Ev.now _
  | succ d ih =>
    intro j acc hj ha
    refine Ev.step (fun k => by rw [impl_KidsOf.l0]) ?_
    refine Ev.bind (impl_endOf_ev l hl i hi) ?_
    have c0 : ((j : Int) < ((endI (dep l) l.length i : Nat) : Int)) := by omega
    have c1 : (j : Int) < (l.length : Int) := by omega
    have c2 : (0 : Int) ≤ (j : Int) := by omega
    have c3 : (0 : Int) ≤ (i : Int) := by omega
    have c4 : (i : Int) < (l.length : Int) := by omega
    have e4 : wrap64 ((j : Int) + 1) = ((j + 1 : Nat) : Int) := by rw [w64 (by omega) (by omega)]; rfl
    simp only [if_pos c0, if_pos c2, if_pos c1, if_pos c3, if_pos c4, e4, rdN, e5, kidGo]
    by_cases h : dep l j = dep l i + 1
    · have hl1 : acc.length < 17592186044416 := by omega
      simp only [if_pos h, if_pos hl1]
      have := ih (j + 1) (acc ++ [(j : Int)]) (by omega) (by simp; omega)
      simpa only [List.append_assoc, List.cons_append, List.nil_append] using this
    · simp only [if_neg h]
      exact ih (j + 1) acc (by omega) (by omega)

theorem impl_KidsOf_ev (l : List S64) (hl : l.length ≤ 1048576) (a : Int) : Ev (fun k => impl_KidsOf.f k l a) (if atB (lab l) (dep l) l.length a = true then kidsI (dep l) l.length a.toNat else []) := by
  unfold impl_KidsOf.f
  simp only [Option.bind_some]
  refine Ev.bind (impl_hasNode_ev l hl a) ?_
  by_cases h : atB (lab l) (dep l) l.length a = true
  · obtain ⟨i, rfl, hi, _⟩ := atB_nat h
    have e4 : wrap64 ((i : Int) + 1) = ((i + 1 : Nat) : Int) := by rw [w64 (by omega) (by omega)]; rfl
    have hel := endI_le (dep l) l.length i hi
    simp only [if_pos h, e4, Int.toNat_natCast]
    have := impl_KidsOf_l0 l hl i h (endI (dep l) l.length i - (i + 1)) (i + 1) [] (by omega) (by simp)
    rw [List.nil_append] at this
    exact this
  · simp only [if_neg h]; exact Ev.now _

theorem kidsT_small (l : List S64) (a : Int) (hl : l.length ≤ 1048576) : (if atB (lab l) (dep l) l.length a = true then kidsI (dep l) l.length a.toNat else []).length ≤ 1048576 := by
  by_cases h : atB (lab l) (dep l) l.length a = true
  · obtain ⟨i, rfl, hi, _⟩ := atB_nat h
    rw [if_pos h]
    have := kidGo_len (dep l) (dep l i + 1) (endI (dep l) l.length i - (i + 1)) (i + 1)
    have := endI_le (dep l) l.length i hi
    simp only [Int.toNat_natCast]
    unfold kidsI; omega
  · rw [if_neg h]; simp

/-! impl_ParentOf -/
theorem impl_ParentOf_l0 (l : List S64) (hl : l.length ≤ 1048576) (i : Nat) (hi : i < l.length) : ∀ p : Nat, p ≤ i → Ev (fun k => impl_ParentOf.l0 k l i ((p : Int) - 1)) (parGo (dep l) (dep l i) p) := by
  intro p
  induction p with
  | zero =>
    intro _
    exact Ev.step (f := fun _ => some (-1)) (fun k => by simp only [impl_ParentOf.l0]; rw [if_neg (by omega)]; rfl) (Ev.now _)
  | succ p ih =>
    intro hp
    have e0 : ((p + 1 : Nat) : Int) - 1 = (p : Int) := by omega
    have c1 : (p : Int) ≥ 0 := by omega
    have c2 : (0 : Int) ≤ (p : Int) := by omega
    have c3 : (p : Int) < (l.length : Int) := by omega
    have c4 : (0 : Int) ≤ (i : Int) := by omega
    have c5 : (i : Int) < (l.length : Int) := by omega
    have e4 : wrap64 ((p : Int) - 1) = (p : Int) - 1 := w64 (by omega) (by omega)
    rw [e0]
    refine Ev.step (fun k => by simp only [impl_ParentOf.l0]; rw [if_pos c1, if_pos c2, if_pos c3, if_pos c4, if_pos c5, e4, rdN, rdN]) ?_
    simp only [parGo]
    by_cases h : dep l p ≥ dep l i
    · simp only [if_pos h]; exact ih (by omega)
    · simp only [if_neg h]; exact Ev.now _
theorem impl_ParentOf_ev (l : List S64) (hl : l.length ≤ 1048576) (a : Int) : Ev (fun k => impl_ParentOf.f k l a) (if atB (lab l) (dep l) l.length a = true then parI (dep l) a.toNat else -1) := by
  unfold impl_ParentOf.f
  refine Ev.bind (impl_hasNode_ev l hl a) ?_
  by_cases h : atB (lab l) (dep l) l.length a = true
  · obtain ⟨i, rfl, hi, _⟩ := atB_nat h
    have e4 : wrap64 ((i : Int) - 1) = (i : Int) - 1 := w64 (by omega) (by omega)
    simp only [if_pos h, e4, Int.toNat_natCast]
    exact impl_ParentOf_l0 l hl i hi i (Nat.le_refl _)
  · simp only [if_neg h]; exact Ev.now _

/-! slices_Index_int_int -/
theorem sIndex_l0 (x : Int) (xs : List Int) (hx : xs.length ≤ 1048576) (d : Nat) : ∀ j : Nat, j + d = xs.length → Ev (fun k => slices_Index_int_int.l0 k xs x xs.length j) (idxGo x (xs.drop j) j) := by
  induction d with
  | zero =>
    intro j hj
    rw [List.drop_of_length_le (by omega)]
    exact Ev.step (f := fun _ => some (-1)) (fun k => by simp only [slices_Index_int_int.l0]; rw [if_neg (by omega)]) (Ev.now _)
  | succ d ih =>
    intro j hj
    have hjl : j < xs.length := by omega
    have c1 : (j : Int) < (xs.length : Int) := by omega
    have c2 : (0 : Int) ≤ (j : Int) := by omega
    have e4 : wrap64 ((j : Int) + 1) = ((j + 1 : Nat) : Int) := by rw [w64 (by omega) (by omega)]; rfl
    have er : rd xs (j : Int) = xs[j] := by unfold rd; simp [List.getD_eq_getElem?_getD, List.getElem?_eq_getElem hjl]
    rw [List.drop_eq_getElem_cons hjl]
    refine Ev.step (fun k => by simp only [slices_Index_int_int.l0]; rw [if_pos c1, if_pos c2, if_pos c1, e4, er]) ?_
    simp only [idxGo]
    by_cases h : x = xs[j]
    · simp only [if_pos h]; exact Ev.now _
    · simp only [if_neg h]; exact ih (j + 1) (by omega)
theorem sIndex_ev (x : Int) (xs : List Int) (hx : xs.length ≤ 1048576) : Ev (fun k => slices_Index_int_int.f k xs x) (idxGo x xs 0) := by
  unfold slices_Index_int_int.f
  have := sIndex_l0 x xs hx _ 0 (Nat.zero_add _)
  simpa using this

/-! impl_KidRank -/
theorem impl_KidRank_ev (l : List S64) (hl : l.length ≤ 1048576) (a : Int) : Ev (fun k => impl_KidRank.f k l a) (rankT l a) := by
  unfold impl_KidRank.f
  refine Ev.bind (impl_ParentOf_ev l hl a) ?_
  by_cases h : atB (lab l) (dep l) l.length a = true
  · by_cases h0 : 0 ≤ parI (dep l) a.toNat
    · have hp := par_at l a h h0
      obtain ⟨i, hi', hi, ht⟩ := atB_nat hp
      rw [rankT_yes l a h h0]
      simp only [if_pos h]
      rw [hi'] at hp ⊢
      refine Ev.bind (impl_KidsOf_ev l hl _) ?_
      simp only [if_pos hp, Int.toNat_natCast]
      exact Ev.bind (sIndex_ev a _ (kids_small l i hi hl)) (Ev.now _)
    · rw [rankT_no l a (fun e => h0 e.2)]
      simp only [if_pos h]
      refine Ev.bind (impl_KidsOf_ev l hl _) ?_
      rw [if_neg (fun e => h0 (atB_iff.1 e).2.1)]
      exact Ev.bind (sIndex_ev a [] (by simp)) (Ev.now _)
  · rw [rankT_no l a (fun e => h e.1)]
    simp only [if_neg h]
    refine Ev.bind (impl_KidsOf_ev l hl _) ?_
    rw [if_neg (fun e => by have := (atB_iff.1 e).2.1; omega)]
    exact Ev.bind (sIndex_ev a [] (by simp)) (Ev.now _)

theorem law : ∀ (l0 : List S66) (a1 : Int), l0.length ≤ maxLen → (∀ x ∈ l0, (Lit.int .i64 x.f0).wf = true ∧ (Lit.int .i64 x.f1).wf = true) → (Lit.int .i64 a1).wf = true → ∃ k, laws_FnExactKidRank.f k l0 a1 = some true := by
  intro l0 a1 hl0 _ h1
  refine Ev.rounds ?_
  unfold laws_FnExactKidRank.f
  simp only [sz_eq l0 hl0 1048576 (by omega) (by omega), Option.bind_some]
  by_cases h : (1048576 : Int) < l0.length
  · simp only [if_pos h]; exact Ev.now _
  · have hl : (l0.map conv).length ≤ 1048576 := by simp; omega
    simp only [if_neg h, if_neg (show ¬ (1048576 - (l0.length : Int) < 0) by omega)]
    refine Ev.bind (toNodeS_ev l0 (by omega)) (Ev.bind (spec_KidRank_ev _ hl a1 (wf64 h1)) (Ev.bind (toNodeS_ev l0 (by omega)) (Ev.bind (impl_KidRank_ev _ hl a1) ?_)))
    simp only [if_true]
    refine Ev.bind (toNodeS_ev l0 (by omega)) (Ev.bind (eqNodeS_ev _ hl) ?_)
    simp only [if_true]
    exact Ev.now _

end Go.Proofs.Yteflhablmeelbaa.PureFnExactKidRank
namespace Go.Proofs.Yteflhablmeelbaa.Pure
open Go.RowKit Go.Proofs.Yteflhablmeelbaa.PFnExactKidRank
theorem FnExactKidRank : ∀ (l0 : List S66) (a1 : Int), l0.length ≤ maxLen → (∀ x ∈ l0, (Lit.int .i64 x.f0).wf = true ∧ (Lit.int .i64 x.f1).wf = true) → (Lit.int .i64 a1).wf = true → ∃ k, laws_FnExactKidRank.f k l0 a1 = some true := Go.Proofs.Yteflhablmeelbaa.PureFnExactKidRank.law
end Go.Proofs.Yteflhablmeelbaa.Pure
