/- For every code: of the cost and the labels drawn from it, each cost is that of its table, and none where the cost or a label is none. Condition: none but the model's own bound on a slice's size. -/
import Derived.Test.YteflhablmeelbaaHFnCostsx7
import Derived.Test.YteflhablmeelbaaM
import Derived.Test.YteflhablmeelbaaMB
import Derived.Test.YteflhablmeelbaaTB
namespace Go.Proofs.Yteflhablmeelbaa.PureFnCosts
open Go.RowKit Go.Proofs.Yteflhablmeelbaa.HFnCosts Go.Proofs.YteflhablmeelbaaW.PrintWords Go.Proofs.YteflhablmeelbaaW.PrintLast Go.Proofs.YteflhablmeelbaaW.PrintMore Go.Proofs.Yteflhablmeelbaa.M
set_option linter.unusedVariables false
set_option linter.unusedSimpArgs false

def pricesT (l : List Int) (n : Int) : Bool := decide ((l.length : Int) = n) && decide (∀ x ∈ l, 0 ≤ x ∧ x ≤ 1000)
theorem pricesT_iff (l : List Int) (n : Int) : pricesT l n = true ↔ (l.length : Int) = n ∧ ∀ x ∈ l, 0 ≤ x ∧ x ≤ 1000 := by
  unfold pricesT; rw [Bool.and_eq_true, decide_eq_true_iff, decide_eq_true_iff]
def diagGo (r : List Int) : Nat → Nat → Bool
  | 0, _ => true
  | d + 1, j => if rd r ((j : Int) * 6 + j) = 0 then diagGo r d (j + 1) else false
def costT (a b r : List Int) : Bool := if pricesT a 6 = true then if pricesT b 6 = true then if pricesT r 36 = true then diagGo r 6 0 else false else false else false
def delT (a b r : List Int) (i : Int) : Int := if costT a b r = true ∧ 0 ≤ i ∧ i ≤ 5 then rd a i else 0
def insT (a b r : List Int) (i : Int) : Int := if costT a b r = true ∧ 0 ≤ i ∧ i ≤ 5 then rd b i else 0
def relT (a b r : List Int) (i j : Int) : Int := if costT a b r = true ∧ (0 ≤ i ∧ i ≤ 5) ∧ 0 ≤ j ∧ j ≤ 5 then rd r (i * 6 + j) else 0
theorem costT_len {a b r : List Int} (h : costT a b r = true) : a.length = 6 ∧ b.length = 6 ∧ r.length = 36 := by
  unfold costT at h
  by_cases h1 : pricesT a 6 = true
  · by_cases h2 : pricesT b 6 = true
    · by_cases h3 : pricesT r 36 = true
      · have := ((pricesT_iff a 6).1 h1).1
        have := ((pricesT_iff b 6).1 h2).1
        have := ((pricesT_iff r 36).1 h3).1
        omega
      · rw [if_pos h1, if_pos h2, if_neg h3] at h; cases h
    · rw [if_pos h1, if_neg h2] at h; cases h
  · rw [if_neg h1] at h; cases h

/-- Numbers, one behind the other. -/
def catV : List Int → ByteArray
  | [] => ⟨#[]⟩
  | x :: l => varS x ++ catV l
def putC (a b r : List Int) : ByteArray := if costT a b r = true then catV (a ++ b ++ r) else ⟨#[]⟩
/-- So many numbers from place a on, behind others. -/
def numsGo (s : ByteArray) : Nat → Nat → List Int → Option (List Int × Nat)
  | 0, a, acc => some (acc, a)
  | d + 1, a, acc => if (readVar (s.extract a s.size)).2 = 0 then none else numsGo s d (a + (readVar (s.extract a s.size)).2.toNat) (acc ++ [(readVar (s.extract a s.size)).1])
def getC (s : ByteArray) : List Int × List Int × List Int × Bool :=
  match numsGo s 48 0 [] with
  | none => ([], [], [], false)
  | some (l, a) => if a = s.size ∧ costT (l.take 6) ((l.take 12).drop 6) (l.drop 12) = true then (l.take 6, (l.take 12).drop 6, l.drop 12, true) else ([], [], [], false)
theorem numsGo_len (s : ByteArray) (d : Nat) : ∀ (a : Nat) (acc l : List Int) (e : Nat), a ≤ s.size → numsGo s d a acc = some (l, e) → l.length = acc.length + d ∧ e ≤ s.size := by
  induction d with
  | zero => intro a acc l e ha h; simp only [numsGo, Option.some.injEq, Prod.mk.injEq] at h; rw [← h.1, ← h.2]; exact ⟨rfl, ha⟩
  | succ d ih =>
    intro a acc l e ha h
    simp only [numsGo] at h
    have hr := readVar_range (s.extract a s.size)
    rw [tail_size] at hr
    by_cases c : (readVar (s.extract a s.size)).2 = 0
    · rw [if_pos c] at h; cases h
    · rw [if_neg c] at h
      have := ih _ _ l e (by omega) h
      rw [List.length_append, List.length_singleton] at this
      omega

/-! impl_within -/
theorem impl_within_eq (a b c : Int) : impl_within.f a b c = some (decide (b ≤ a ∧ a ≤ c)) := by
  unfold impl_within.f
  by_cases h : b ≤ a
  · rw [if_pos h]; simp [h]
  · rw [if_neg h]; simp [h]

/-! impl_pricesOk -/
theorem impl_pricesOk_eq (l : List Int) (n : Int) : impl_pricesOk.f l n = some (pricesT l n) := by
  unfold impl_pricesOk.f pricesT
  congr 2
  have h := badGo_all l 0
  by_cases g : ∀ x ∈ l, priceB x = true
  · have g2 : ¬ (0 ≤ badGo l 0) := fun e => (h.1 e) g
    have g3 : ∀ x ∈ l, 0 ≤ x ∧ x ≤ 1000 := fun x hx => by have := g x hx; unfold priceB at this; exact of_decide_eq_true this
    rw [decide_eq_false g2, decide_eq_true g3]; rfl
  · have g2 : 0 ≤ badGo l 0 := h.2 g
    have g3 : ¬ ∀ x ∈ l, 0 ≤ x ∧ x ≤ 1000 := fun e => g (fun x hx => by unfold priceB; exact decide_eq_true (e x hx))
    rw [decide_eq_true g2, decide_eq_false g3]; rfl

/-! impl_CostOk -/
theorem impl_CostOk_l0 (a b r : List Int) (hr : r.length = 36) (d : Nat) : ∀ j : Nat, j + d = 6 → Ev (fun k => impl_CostOk.l0 k j a b r) (diagGo r d j) := by
  induction d with
  | zero =>
    intro j hj
    exact Ev.step (f := fun _ => some true) (fun k => by simp only [impl_CostOk.l0]; rw [if_neg (by omega)]) (Ev.now _)
  | succ d ih =>
    intro j hj
    have c1 : (j : Int) < 6 := by omega
    have c2 : (0 : Int) ≤ (j : Int) * 6 + j := by omega
    have c3 : (j : Int) * 6 + j < (r.length : Int) := by omega
    have e1 : wrap64 (wrap64 ((j : Int) * 6) + j) = (j : Int) * 6 + j := by rw [w64 (n := (j : Int) * 6) (by omega) (by omega), w64 (by omega) (by omega)]
    have e4 : wrap64 ((j : Int) + 1) = ((j + 1 : Nat) : Int) := by rw [w64 (by omega) (by omega)]; rfl
    refine Ev.step (fun k => by simp only [impl_CostOk.l0]; rw [if_pos c1, e1, e4, if_pos c2, if_pos c3]) ?_
    simp only [diagGo]
    by_cases h : rd r ((j : Int) * 6 + j) = 0
    · simp only [if_pos h]; exact ih (j + 1) (by omega)
    · simp only [if_neg h]; exact Ev.now _
theorem impl_CostOk_no (a b r : List Int) : Ev (fun k => impl_CostOk.j0 k true a b r) false := by
  refine Ev.step (fun k => by rw [impl_CostOk.j0]) ?_
  simp only [if_true]; exact Ev.now _
theorem impl_CostOk_ev (a b r : List Int) (ha : a.length ≤ 1048576) (hb : b.length ≤ 1048576) (hr : r.length ≤ 1048576) : Ev (fun k => impl_CostOk.f k a b r) (costT a b r) := by
  unfold impl_CostOk.f costT
  simp only [impl_pricesOk_eq, Option.bind_some]
  by_cases h1 : pricesT a 6 = true
  · rw [h1]
    simp only [if_true]
    skip
    by_cases h2 : pricesT b 6 = true
    · rw [h2]
      simp only [if_true]
      skip
      by_cases h3 : pricesT r 36 = true
      · rw [h3]
        refine Ev.step (fun k => by rw [impl_CostOk.j0]) ?_
        simp only [Bool.not_true, Bool.false_eq_true, if_false, if_true]
        have hl := ((pricesT_iff r 36).1 h3).1
        exact impl_CostOk_l0 a b r (by omega) 6 0 rfl
      · rw [Bool.eq_false_iff.mpr h3]
        simp only [Bool.not_false, Bool.false_eq_true, if_false]
        exact impl_CostOk_no a b r
    · rw [Bool.eq_false_iff.mpr h2]
      simp only [Bool.false_eq_true, if_false]
      exact impl_CostOk_no a b r
  · rw [Bool.eq_false_iff.mpr h1]
    simp only [Bool.false_eq_true, if_false]
    exact impl_CostOk_no a b r

/-! impl_LabelOk -/
theorem impl_LabelOk_eq (a : Int) : impl_LabelOk.f a = some (decide (0 ≤ a ∧ a ≤ 5)) := by
  unfold impl_LabelOk.f; simp only [impl_within_eq, Option.bind_some]

/-! impl_DelCost -/
theorem impl_DelCost_ev (a b r : List Int) (i : Int) (ha : a.length ≤ 1048576) (hb : b.length ≤ 1048576) (hr : r.length ≤ 1048576) : Ev (fun k => impl_DelCost.f k a b r i) (delT a b r i) := by
  unfold impl_DelCost.f
  refine Ev.bind (impl_CostOk_ev a b r ha hb hr) ?_
  simp only [impl_LabelOk_eq, Option.bind_some, decide_eq_true_eq]
  by_cases h1 : costT a b r = true
  · have hl := costT_len h1
    simp only [if_pos h1]
    by_cases h2 : 0 ≤ i ∧ i ≤ 5
    · simp only [if_pos h2, if_pos h2.1, if_pos (show i < (a.length : Int) by omega)]
      exact evSome (by unfold delT; rw [if_pos ⟨h1, h2⟩])
    · simp only [if_neg h2]
      exact evSome (by unfold delT; rw [if_neg (fun h => h2 h.2)])
  · simp only [if_neg h1]
    exact evSome (by unfold delT; rw [if_neg (fun h => h1 h.1)])

/-! impl_InsCost -/
theorem impl_InsCost_ev (a b r : List Int) (i : Int) (ha : a.length ≤ 1048576) (hb : b.length ≤ 1048576) (hr : r.length ≤ 1048576) : Ev (fun k => impl_InsCost.f k a b r i) (insT a b r i) := by
  unfold impl_InsCost.f
  refine Ev.bind (impl_CostOk_ev a b r ha hb hr) ?_
  simp only [impl_LabelOk_eq, Option.bind_some, decide_eq_true_eq]
  by_cases h1 : costT a b r = true
  · have hl := costT_len h1
    simp only [if_pos h1]
    by_cases h2 : 0 ≤ i ∧ i ≤ 5
    · simp only [if_pos h2, if_pos h2.1, if_pos (show i < (b.length : Int) by omega)]
      exact evSome (by unfold insT; rw [if_pos ⟨h1, h2⟩])
    · simp only [if_neg h2]
      exact evSome (by unfold insT; rw [if_neg (fun h => h2 h.2)])
  · simp only [if_neg h1]
    exact evSome (by unfold insT; rw [if_neg (fun h => h1 h.1)])

/-! impl_RelCost -/
theorem impl_RelCost_ev (a b r : List Int) (i j : Int) (ha : a.length ≤ 1048576) (hb : b.length ≤ 1048576) (hr : r.length ≤ 1048576) : Ev (fun k => impl_RelCost.f k a b r i j) (relT a b r i j) := by
  unfold impl_RelCost.f
  refine Ev.bind (impl_CostOk_ev a b r ha hb hr) ?_
  simp only [impl_LabelOk_eq, Option.bind_some, decide_eq_true_eq]
  by_cases h1 : costT a b r = true
  · have hl := costT_len h1
    simp only [if_pos h1]
    by_cases h2 : 0 ≤ i ∧ i ≤ 5
    · simp only [if_pos h2]
      by_cases h3 : 0 ≤ j ∧ j ≤ 5
      · have c1 : 0 ≤ i * 6 + j := by omega
        have c2 : i * 6 + j < (r.length : Int) := by omega
        have e1 : wrap64 (wrap64 (i * 6) + j) = i * 6 + j := by rw [w64 (n := i * 6) (by omega) (by omega), w64 (by omega) (by omega)]
        simp only [if_pos h3, e1, if_pos c1, if_pos c2]
        exact evSome (by unfold relT; rw [if_pos ⟨h1, h2, h3⟩])
      · simp only [if_neg h3]
        exact evSome (by unfold relT; rw [if_neg (fun h => h3 h.2.2)])
    · simp only [if_neg h2]
      exact evSome (by unfold relT; rw [if_neg (fun h => h2 h.2.1)])
  · simp only [if_neg h1]
    exact evSome (by unfold relT; rw [if_neg (fun h => h1 h.1)])

/-! laws_big -/
theorem big_eq (c : List Int) : laws_big.f c = some (decide ((c.length : Int) > 1048576)) := rfl

/-! spec_l1New -/
theorem new_l0 (c : List Int) (hc : c.length ≤ 1048576) (d : Nat) : ∀ (h : Int) (j : Nat), j + d = c.length → ∃ h', Ev (fun k => spec_l1New.l0 k c h j) (c, 0, h') := by
  induction d with
  | zero =>
    intro h j hj
    exact ⟨h, Ev.step (f := fun _ => some (c, 0, h)) (fun k => by rw [spec_l1New.l0, if_neg (by omega)]) (Ev.now _)⟩
  | succ d ih =>
    intro h j hj
    have c1 : (j : Int) < (c.length : Int) := by omega
    have c2 : (0 : Int) ≤ (j : Int) := by omega
    have e4 : wrap64 ((j : Int) + 1) = ((j + 1 : Nat) : Int) := by rw [w64 (by omega) (by omega)]; rfl
    by_cases g : (j : Int) < 4000
    · obtain ⟨h', a⟩ := ih (Go.bits .and .i64 (wrap64 ((wrap64 ((wrap64 (h * 131)) + (wrap64 (rd c j)))) + 7)) 1073741823) (j + 1) (by omega)
      exact ⟨h', Ev.step (fun k => by rw [spec_l1New.l0, if_pos c1, if_pos g, if_pos c2, e4]) a⟩
    · exact ⟨h, Ev.step (f := fun _ => some (c, 0, h)) (fun k => by rw [spec_l1New.l0, if_pos c1, if_neg g]) (Ev.now _)⟩
theorem new_ok (c : List Int) (hc : c.length ≤ 1048576) : ∃ h', Ev (fun k => spec_l1New.f k c) (c, 0, h') := new_l0 c hc c.length _ 0 (by omega)

/-! spec_l1Byte -/
theorem and255 (x : Int) : 0 ≤ Go.bits .and .i64 x 255 ∧ Go.bits .and .i64 x 255 ≤ 255 := by
  unfold Go.bits
  have h1 : (BitVec.ofInt 64 x &&& BitVec.ofInt 64 255).toNat ≤ 255 := by
    rw [BitVec.toNat_and]
    exact Nat.and_le_right
  have h2 : IntKind.i64.wrap ((BitVec.ofInt 64 x &&& BitVec.ofInt 64 255).toNat : Int) = ((BitVec.ofInt 64 x &&& BitVec.ofInt 64 255).toNat : Int) := wraps_i64 _ (by omega) (by omega)
  show 0 ≤ IntKind.i64.wrap ((BitVec.ofInt 64 x &&& BitVec.ofInt 64 255).toNat : Int) ∧ IntKind.i64.wrap ((BitVec.ofInt 64 x &&& BitVec.ofInt 64 255).toNat : Int) ≤ 255
  rw [h2]
  omega
theorem byte_ok (b : List Int) (hb : b.length ≤ 1048576) (i h : Int) (hi : 0 ≤ i ∧ i ≤ 1048576) : ∃ x i' h', spec_l1Byte.f b i h = some (x, i', h') ∧ (0 ≤ x ∧ x ≤ 255) ∧ (0 ≤ i' ∧ i' ≤ 1048576) := by
  unfold spec_l1Byte.f
  by_cases c : i < (b.length : Int)
  · rw [if_pos c, if_pos hi.1]
    refine ⟨_, _, _, rfl, and255 _, ?_⟩
    rw [w64 (by omega) (by omega)]; omega
  · rw [if_neg c]
    exact ⟨_, _, _, rfl, and255 _, hi⟩

/-! spec_l1Below -/
theorem below_ok (b : List Int) (hb : b.length ≤ 1048576) (i h : Int) (hi : 0 ≤ i ∧ i ≤ 1048576) (n : Int) : ∃ x i' h', spec_l1Below.f b i h n = some (x, i', h') ∧ (0 ≤ x ∧ (0 < n → x < n) ∧ (n ≤ 0 → x = 0)) ∧ (0 ≤ i' ∧ i' ≤ 1048576) := by
  unfold spec_l1Below.f
  by_cases c : n ≤ 0
  · rw [if_pos c]
    exact ⟨_, _, _, rfl, ⟨by omega, by omega, fun _ => rfl⟩, hi⟩
  · rw [if_neg c]
    by_cases c2 : n ≤ 256
    · rw [if_pos c2]
      obtain ⟨x, i1, h1, e1, hx, hi1⟩ := byte_ok b hb i h hi
      rw [e1]
      simp only [Option.bind_some]
      rw [if_neg (by omega)]
      refine ⟨_, _, _, rfl, ⟨?_, ?_, ?_⟩, hi1⟩
      · rw [Int.tmod_eq_emod_of_nonneg hx.1]; exact Int.emod_nonneg _ (by omega)
      · intro _; rw [Int.tmod_eq_emod_of_nonneg hx.1]; exact Int.emod_lt_of_pos _ (by omega)
      · intro g; omega
    · rw [if_neg c2]
      obtain ⟨x1, i1, h1, e1, hx1, hi1⟩ := byte_ok b hb i h hi
      rw [e1]
      simp only [Option.bind_some]
      obtain ⟨x2, i2, h2, e2, hx2, hi2⟩ := byte_ok b hb i1 h1 hi1
      rw [e2]
      simp only [Option.bind_some]
      obtain ⟨x3, i3, h3, e3, hx3, hi3⟩ := byte_ok b hb i2 h2 hi2
      rw [e3]
      simp only [Option.bind_some]
      obtain ⟨x4, i4, h4, e4, hx4, hi4⟩ := byte_ok b hb i3 h3 hi3
      rw [e4]
      simp only [Option.bind_some]
      rw [if_neg (by omega)]
      clear e1 e2 e3 e4
      have g1 : wrap64 (x1 * 16777216) = x1 * 16777216 := w64 (by omega) (by omega)
      have g2 : wrap64 (x2 * 65536) = x2 * 65536 := w64 (by omega) (by omega)
      have g3 : wrap64 (x3 * 256) = x3 * 256 := w64 (by omega) (by omega)
      rw [g1, g2, g3]
      clear g1 g2 g3
      have g4 : wrap64 (x1 * 16777216 + x2 * 65536) = x1 * 16777216 + x2 * 65536 := w64 (by omega) (by omega)
      rw [g4]
      clear g4
      have g5 : wrap64 (x1 * 16777216 + x2 * 65536 + x3 * 256) = x1 * 16777216 + x2 * 65536 + x3 * 256 := w64 (by omega) (by omega)
      rw [g5]
      clear g5
      have g6 : wrap64 (x1 * 16777216 + x2 * 65536 + x3 * 256 + x4) = x1 * 16777216 + x2 * 65536 + x3 * 256 + x4 := w64 (by omega) (by omega)
      rw [g6]
      clear g6
      have g7 : 0 ≤ x1 * 16777216 + x2 * 65536 + x3 * 256 + x4 := by omega
      refine ⟨_, _, _, rfl, ⟨?_, ?_, ?_⟩, hi4⟩
      · rw [Int.tmod_eq_emod_of_nonneg g7]; exact Int.emod_nonneg _ (by omega)
      · intro _; rw [Int.tmod_eq_emod_of_nonneg g7]; exact Int.emod_lt_of_pos _ (by omega)
      · intro g; omega

/-! spec_l1PickInt -/
theorem pickInt_ok (b : List Int) (hb : b.length ≤ 1048576) (i h : Int) (hi : 0 ≤ i ∧ i ≤ 1048576) (l : List Int) (hl : 0 < l.length) : ∃ x i' h', spec_l1PickInt.f b i h l = some (x, i', h') ∧ x ∈ l ∧ (0 ≤ i' ∧ i' ≤ 1048576) := by
  obtain ⟨x, i1, h1, e1, hx, hi1⟩ := below_ok b hb i h hi (l.length : Int)
  unfold spec_l1PickInt.f
  rw [e1]
  simp only [Option.bind_some]
  have hlt := hx.2.1 (by omega)
  rw [if_pos hx.1, if_pos hlt]
  refine ⟨_, _, _, rfl, ?_, hi1⟩
  unfold rd
  have hn : x.toNat < l.length := by omega
  rw [List.getD_eq_getElem?_getD, List.getElem?_eq_getElem hn]
  exact List.getElem_mem hn

/-! spec_l7Cost -/
theorem ev_mono {α : Type} {f : Nat → Option α} (hm : ∀ k, LeO (f k) (f (k + 1))) {K : Nat} {r : α} (h : f K = some r) : Ev f r :=
  ⟨K, fun k hk => by
    induction hk with
    | refl => exact h
    | step _ ih => exact hm _ _ ih⟩
def unitL : List Int := [1, 1, 1, 1, 1, 1]
def unitR : List Int := [0, 1, 1, 1, 1, 1, 1, 0, 1, 1, 1, 1, 1, 1, 0, 1, 1, 1, 1, 1, 1, 0, 1, 1, 1, 1, 1, 1, 0, 1, 1, 1, 1, 1, 1, 0]
theorem spec_unit_ev : Ev (fun k => spec_UnitCost.f k) (unitL, unitL, unitR) := ev_mono (K := 200) (fun k => spec_UnitCost.mono k) (by kernel_rfl)
theorem l7Cost_l0 (s : List Int) (i h : Int) (a b : List Int) (d : Nat) : ∀ (j : Nat) (r : List Int), j + d = r.length → r.length = 36 → ∃ r', Ev (fun k => spec_l7Cost.l0 k j s i h a b r) (a, b, r', i, h) ∧ r'.length = 36 := by
  induction d with
  | zero =>
    intro j r hj hr
    have c0 : ¬ ((j : Int) < (r.length : Int)) := by omega
    exact ⟨r, Ev.step (f := fun _ => some (a, b, r, i, h)) (fun k => by simp only [spec_l7Cost.l0]; rw [if_neg c0]) (Ev.now _), hr⟩
  | succ d ih =>
    intro j r hj hr
    have c0 : (j : Int) < (r.length : Int) := by omega
    have c1 : (0 : Int) ≤ (j : Int) := by omega
    have e4 : wrap64 ((j : Int) + 1) = ((j + 1 : Nat) : Int) := by rw [w64 (by omega) (by omega)]; rfl
    obtain ⟨r', h1, h2⟩ := ih (j + 1) (r.set (j : Int).toNat (wrap64 (rd r j * 3))) (by rw [List.length_set]; omega) (by rw [List.length_set, hr])
    exact ⟨r', Ev.step (fun k => by simp only [spec_l7Cost.l0]; rw [if_pos c0, if_pos c1, e4]) h1, h2⟩
theorem idx6 (p q : Nat) (hp : p < 6) (hq : q < 6) : wrap64 (wrap64 ((p : Int) * 6) + (q : Int)) = ((p * 6 + q : Nat) : Int) := by
  have e : wrap64 ((p : Int) * 6) = (p : Int) * 6 := w64 (by omega) (by omega)
  rw [e]
  clear e
  rw [w64 (by omega) (by omega)]; omega
def lens (a b r : List Int) : Prop := a.length = 6 ∧ b.length = 6 ∧ r.length = 36
theorem nat_step (p : Nat) (h : p < 1000000) : wrap64 ((p : Int) + 1) = ((p + 1 : Nat) : Int) := by rw [w64 (by omega) (by omega)]; rfl
def l7Next (s : List Int) (p : Nat) : Prop := ∀ (i h : Int) (a b r : List Int), lens a b r → (0 ≤ i ∧ i ≤ 1048576) → ∃ a' b' r' i' h', Ev (fun k => spec_l7Cost.l1 k ((p : Nat) : Int) s i h a b r) (a', b', r', i', h') ∧ lens a' b' r' ∧ (0 ≤ i' ∧ i' ≤ 1048576)
theorem lens_r {a b r : List Int} (hl : lens a b r) (j : Nat) (y : Int) : lens a b (r.set j y) := ⟨hl.1, hl.2.1, by rw [List.length_set]; exact hl.2.2⟩
theorem lens_ab {a b r : List Int} (hl : lens a b r) (j : Nat) (x y : Int) : lens (a.set j x) (b.set j y) r := ⟨by rw [List.length_set]; exact hl.1, by rw [List.length_set]; exact hl.2.1, hl.2.2⟩
theorem lens_in {a b r : List Int} (hl : lens a b r) (j : Nat) (h : j < 36) : (j : Int) < (r.length : Int) := by rw [hl.2.2]; omega
theorem l7Cost_l2 (s : List Int) (hs : s.length ≤ 1048576) (p : Nat) (hp : p < 6) (hK : l7Next s (p + 1)) (e : Nat) : ∀ (q : Nat) (i h : Int) (a b r : List Int), q + e = 6 → lens a b r → (0 ≤ i ∧ i ≤ 1048576) →
    ∃ a' b' r' i' h', Ev (fun k => spec_l7Cost.l2 k p q s i h a b r) (a', b', r', i', h') ∧ lens a' b' r' ∧ (0 ≤ i' ∧ i' ≤ 1048576) := by
  induction e with
  | zero =>
    intro q i h a b r hq hl hi
    have d0 : ¬ ((q : Int) < 6) := by clear hl hi hK hs; omega
    obtain ⟨a', b', r', i', h', g1, g2, g3⟩ := hK i h a b r hl hi
    exact ⟨a', b', r', i', h', Ev.step (fun k => by rw [spec_l7Cost.l2, if_neg d0, nat_step p (by omega)]) g1, g2, g3⟩
  | succ e ihe =>
    intro q i h a b r hq hl hi
    have hq6 : q < 6 := by clear hl hi hK hs; omega
    have hq1 : q + 1 + e = 6 := by clear hl hi hK hs; omega
    have d0 : (q : Int) < 6 := by clear hl hi hK hs; omega
    have e4 := nat_step q (by clear hl hi hK hs; omega)
    by_cases c : (p : Int) = (q : Int)
    · obtain ⟨a', b', r', i', h', g1, g2, g3⟩ := ihe (q + 1) i h a b r hq1 hl hi
      exact ⟨a', b', r', i', h', Ev.step (fun k => by rw [spec_l7Cost.l2, if_pos d0, if_pos c, e4]) g1, g2, g3⟩
    · obtain ⟨y, i3, h3, f3, _, hi3⟩ := pickInt_ok s hs i h hi [0, 1, 4, 9, 1000] (by decide)
      have e5 := idx6 p q hp hq6
      have hj : p * 6 + q < 36 := by clear hl hi hK hs e4 e5 hi3; omega
      have d1 : (0 : Int) ≤ ((p * 6 + q : Nat) : Int) := Int.natCast_nonneg _
      have d2 := lens_in hl (p * 6 + q) hj
      obtain ⟨a', b', r', i', h', g1, g2, g3⟩ := ihe (q + 1) i3 h3 a b (r.set ((p * 6 + q : Nat) : Int).toNat y) hq1 (lens_r hl _ y) hi3
      exact ⟨a', b', r', i', h', Ev.step (fun k => by rw [spec_l7Cost.l2, if_pos d0, if_neg c, f3, Option.bind_some, e5, if_pos d1, if_pos d2, e4]) g1, g2, g3⟩
theorem l7Cost_l1 (s : List Int) (hs : s.length ≤ 1048576) (d : Nat) : ∀ p : Nat, p + d = 6 → l7Next s p := by
  induction d with
  | zero =>
    intro p hp i h a b r hl hi
    have c0 : ¬ ((p : Int) < 6) := by clear hl hi hs; omega
    exact ⟨a, b, r, i, h, Ev.step (f := fun _ => some (a, b, r, i, h)) (fun k => by rw [spec_l7Cost.l1, if_neg c0]) (Ev.now _), hl, hi⟩
  | succ d ih =>
    intro p hp i h a b r hl hi
    have hp6 : p < 6 := by clear hl hi hs; omega
    have hp1 : p + 1 + d = 6 := by clear hl hi hs; omega
    have c0 : (p : Int) < 6 := by clear hl hi hs; omega
    have c1 : (0 : Int) ≤ (p : Int) := Int.natCast_nonneg _
    have c2 : (p : Int) < (a.length : Int) := by rw [hl.1]; exact c0
    have c3 : (p : Int) < (b.length : Int) := by rw [hl.2.1]; exact c0
    obtain ⟨x1, i1, h1, f1, _, hi1⟩ := below_ok s hs i h hi 7
    obtain ⟨x2, i2, h2, f2, _, hi2⟩ := below_ok s hs i1 h1 hi1 7
    obtain ⟨a', b', r', i', h', g1, g2, g3⟩ := l7Cost_l2 s hs p hp6 (ih (p + 1) hp1) 6 0 i2 h2 (a.set (p : Int).toNat x1) (b.set (p : Int).toNat x2) r rfl (lens_ab hl _ x1 x2) hi2
    exact ⟨a', b', r', i', h', Ev.step (fun k => by rw [spec_l7Cost.l1, if_pos c0, f1, Option.bind_some, if_pos c1, if_pos c2, f2, Option.bind_some, if_pos c3]; rfl) g1, g2, g3⟩
theorem l7Cost_ok (s : List Int) (hs : s.length ≤ 1048576) (i h : Int) (hi : 0 ≤ i ∧ i ≤ 1048576) : ∃ a b r i' h', Ev (fun k => spec_l7Cost.f k s i h) (a, b, r, i', h') ∧ lens a b r ∧ (0 ≤ i' ∧ i' ≤ 1048576) := by
  obtain ⟨x, i1, h1, f1, _, hi1⟩ := below_ok s hs i h hi 4
  have hu : lens unitL unitL unitR := ⟨rfl, rfl, rfl⟩
  by_cases c : x = 0
  · refine ⟨unitL, unitL, unitR, i1, h1, ?_, hu, hi1⟩
    unfold spec_l7Cost.f
    refine Ev.bind spec_unit_ev ?_
    simp only [f1, Option.bind_some, if_pos c]
    exact Ev.now _
  · by_cases c2 : x = 1
    · obtain ⟨r', g1, g2⟩ := l7Cost_l0 s i1 h1 unitL unitL 36 0 unitR (by decide) (by decide)
      refine ⟨unitL, unitL, r', i1, h1, ?_, ⟨rfl, rfl, g2⟩, hi1⟩
      unfold spec_l7Cost.f
      refine Ev.bind spec_unit_ev ?_
      simp only [f1, Option.bind_some, if_neg c, if_pos c2]
      exact g1
    · obtain ⟨a', b', r', i', h', g1, g2, g3⟩ := l7Cost_l1 s hs 6 0 rfl i1 h1 unitL unitL unitR hu hi1
      refine ⟨a', b', r', i', h', ?_, g2, g3⟩
      unfold spec_l7Cost.f
      refine Ev.bind spec_unit_ev ?_
      simp only [f1, Option.bind_some, if_neg c, if_neg c2]
      exact g1

/-! spec_l7Any -/
theorem l7Any_ok (s : List Int) (hs : s.length ≤ 1048576) (i h : Int) (hi : 0 ≤ i ∧ i ≤ 1048576) : ∃ a b r i' h', Ev (fun k => spec_l7Any.f k s i h) (a, b, r, i', h') ∧ (a.length ≤ 36 ∧ b.length ≤ 36 ∧ r.length ≤ 36) ∧ (0 ≤ i' ∧ i' ≤ 1048576) := by
  obtain ⟨a, b, r, i1, h1, g1, hl, hi1⟩ := l7Cost_ok s hs i h hi
  have hl1 := hl.1
  have hl2 := hl.2.1
  have hl3 := hl.2.2
  obtain ⟨x, i2, h2, f2, _, hi2⟩ := below_ok s hs i1 h1 hi1 14
  by_cases c : x = 0
  · obtain ⟨y, i3, h3, f3, hy, hi3⟩ := below_ok s hs i2 h2 hi2 6
    obtain ⟨z, i4, h4, f4, _, hi4⟩ := pickInt_ok s hs i3 h3 hi3 [-1, 1001, 1000] (by decide)
    have c1 : 0 ≤ y := hy.1
    have c2 : y < (a.length : Int) := by have := hy.2.1 (by omega); omega
    refine ⟨a.set y.toNat z, b, r, i4, h4, ?_, ⟨by rw [List.length_set]; omega, by omega, by omega⟩, hi4⟩
    unfold spec_l7Any.f
    refine Ev.bind g1 ?_
    simp only [f2, Option.bind_some, if_pos c, f3, f4, if_pos c1, if_pos c2]
    exact Ev.now _
  · by_cases c2 : x = 1
    · obtain ⟨y, i3, h3, f3, hy, hi3⟩ := below_ok s hs i2 h2 hi2 36
      have c3 : 0 ≤ y := hy.1
      have c4 : y < (r.length : Int) := by have := hy.2.1 (by omega); omega
      refine ⟨a, b, r.set y.toNat 5, i3, h3, ?_, ⟨by omega, by omega, by rw [List.length_set]; omega⟩, hi3⟩
      unfold spec_l7Any.f
      refine Ev.bind g1 ?_
      simp only [f2, Option.bind_some, if_neg c, if_pos c2, f3, if_pos c3, if_pos c4]
      exact Ev.now _
    · by_cases c3 : x = 2
      · have c4 : (1 : Int) ≤ (b.length : Int) := by omega
        refine ⟨a, b.drop (1 : Int).toNat, r, i2, h2, ?_, ⟨by omega, by rw [List.length_drop]; omega, by omega⟩, hi2⟩
        unfold spec_l7Any.f
        refine Ev.bind g1 ?_
        simp only [f2, Option.bind_some, if_neg c, if_neg c2, if_pos c3, if_pos c4]
        exact Ev.now _
      · refine ⟨a, b, r, i2, h2, ?_, ⟨by omega, by omega, by omega⟩, hi2⟩
        unfold spec_l7Any.f
        refine Ev.bind g1 ?_
        simp only [f2, Option.bind_some, if_neg c, if_neg c2, if_neg c3]
        exact Ev.now _

/-! spec_l2Any -/
theorem any_ok (b : List Int) (hb : b.length ≤ 1048576) (i h : Int) (hi : 0 ≤ i ∧ i ≤ 1048576) : ∃ x i' h', spec_l2Any.f b i h = some (x, i', h') ∧ (-1 ≤ x ∧ x ≤ 6) ∧ (0 ≤ i' ∧ i' ≤ 1048576) := by
  obtain ⟨x, i1, h1, e1, hx, hi1⟩ := pickInt_ok b hb i h hi [0, 1, 2, 3, 5, 6, -1] (by decide)
  unfold spec_l2Any.f
  rw [e1]
  refine ⟨_, _, _, rfl, ?_, hi1⟩
  simp only [List.mem_cons, List.not_mem_nil, or_false] at hx
  omega

/-! spec_l1In -/
theorem spec_l1In_eq (a b c : Int) : spec_l1In.f a b c = some (decide (b ≤ a ∧ a ≤ c)) := by
  unfold spec_l1In.f
  by_cases h : b ≤ a
  · rw [if_pos h]; simp [h]
  · rw [if_neg h]; simp [h]

/-! spec_l7In -/
theorem spec_l7In_l0 (l : List Int) (hl : l.length ≤ 1048576) (n : Int) (d : Nat) : ∀ j : Nat, j + d = l.length → (∀ x ∈ l.take j, 0 ≤ x ∧ x ≤ 1000) → Ev (fun k => spec_l7In.l0 k l n j) (pricesT l n) := by
  induction d with
  | zero =>
    intro j hj hall
    refine Ev.step (fun k => by simp only [spec_l7In.l0]; rw [if_neg (by omega)]) ?_
    refine evSome ?_
    rw [List.take_of_length_le (by omega)] at hall
    unfold pricesT
    rw [decide_eq_true hall, Bool.and_true]
    rfl
  | succ d ih =>
    intro j hj hall
    have hjl : j < l.length := by omega
    have c1 : (j : Int) < (l.length : Int) := by omega
    have c2 : (0 : Int) ≤ (j : Int) := by omega
    have e4 : wrap64 ((j : Int) + 1) = ((j + 1 : Nat) : Int) := by rw [w64 (by omega) (by omega)]; rfl
    have er : rd l (j : Int) = l[j] := by unfold rd; simp [List.getD_eq_getElem?_getD, List.getElem?_eq_getElem hjl]
    refine Ev.step (fun k => by simp only [spec_l7In.l0]; rw [if_pos c1, if_pos c2, e4, er]) ?_
    simp only [spec_l1In_eq, Option.bind_some, decide_eq_true_eq]
    by_cases h : 0 ≤ l[j] ∧ l[j] ≤ 1000
    · simp only [if_pos h]
      refine ih (j + 1) (by omega) ?_
      rw [List.take_succ_eq_append_getElem hjl]
      intro x hx
      rcases List.mem_append.1 hx with hx | hx
      · exact hall x hx
      · rw [List.mem_singleton.1 hx]; exact h
    · simp only [if_neg h]
      refine evSome ?_
      unfold pricesT
      rw [decide_eq_false (fun ha : ∀ x ∈ l, 0 ≤ x ∧ x ≤ 1000 => h (ha _ (List.getElem_mem hjl))), Bool.and_false]
theorem spec_l7In_ev (l : List Int) (hl : l.length ≤ 1048576) (n : Int) : Ev (fun k => spec_l7In.f k l n) (pricesT l n) := by
  unfold spec_l7In.f
  exact spec_l7In_l0 l hl n l.length 0 (by omega) (by simp)

/-! spec_CostOk -/
theorem spec_CostOk_l0 (a b r : List Int) (hr : r.length = 36) (d : Nat) : ∀ j : Nat, j + d = 6 → Ev (fun k => spec_CostOk.l0 k j a b r) (diagGo r d j) := by
  induction d with
  | zero =>
    intro j hj
    exact Ev.step (f := fun _ => some true) (fun k => by simp only [spec_CostOk.l0]; rw [if_neg (by omega)]) (Ev.now _)
  | succ d ih =>
    intro j hj
    have c1 : (j : Int) < 6 := by omega
    have c2 : (0 : Int) ≤ (j : Int) * 6 + j := by omega
    have c3 : (j : Int) * 6 + j < (r.length : Int) := by omega
    have e1 : wrap64 (wrap64 ((j : Int) * 6) + j) = (j : Int) * 6 + j := by rw [w64 (n := (j : Int) * 6) (by omega) (by omega), w64 (by omega) (by omega)]
    have e4 : wrap64 ((j : Int) + 1) = ((j + 1 : Nat) : Int) := by rw [w64 (by omega) (by omega)]; rfl
    refine Ev.step (fun k => by simp only [spec_CostOk.l0]; rw [if_pos c1, e1, e4, if_pos c2, if_pos c3]) ?_
    simp only [diagGo]
    by_cases h : rd r ((j : Int) * 6 + j) = 0
    · simp only [if_pos h]; exact ih (j + 1) (by omega)
    · simp only [if_neg h]; exact Ev.now _
theorem spec_CostOk_no (a b r : List Int) : Ev (fun k => spec_CostOk.j0 k true a b r) false := by
  refine Ev.step (fun k => by rw [spec_CostOk.j0]) ?_
  simp only [if_true]; exact Ev.now _
theorem spec_CostOk_ev (a b r : List Int) (ha : a.length ≤ 1048576) (hb : b.length ≤ 1048576) (hr : r.length ≤ 1048576) : Ev (fun k => spec_CostOk.f k a b r) (costT a b r) := by
  unfold spec_CostOk.f costT
  refine Ev.bind (spec_l7In_ev a ha 6) ?_
  by_cases h1 : pricesT a 6 = true
  · rw [h1]
    simp only [if_true]
    refine Ev.bind (spec_l7In_ev b hb 6) ?_
    by_cases h2 : pricesT b 6 = true
    · rw [h2]
      simp only [if_true]
      refine Ev.bind (spec_l7In_ev r hr 36) ?_
      by_cases h3 : pricesT r 36 = true
      · rw [h3]
        refine Ev.step (fun k => by rw [spec_CostOk.j0]) ?_
        simp only [Bool.not_true, Bool.false_eq_true, if_false, if_true]
        have hl := ((pricesT_iff r 36).1 h3).1
        exact spec_CostOk_l0 a b r (by omega) 6 0 rfl
      · rw [Bool.eq_false_iff.mpr h3]
        simp only [Bool.not_false, Bool.false_eq_true, if_false]
        exact spec_CostOk_no a b r
    · rw [Bool.eq_false_iff.mpr h2]
      simp only [Bool.false_eq_true, if_false]
      exact spec_CostOk_no a b r
  · rw [Bool.eq_false_iff.mpr h1]
    simp only [Bool.false_eq_true, if_false]
    exact spec_CostOk_no a b r

/-! spec_LabelOk -/
theorem spec_LabelOk_eq (a : Int) : spec_LabelOk.f a = some (decide (0 ≤ a ∧ a ≤ 5)) := by
  unfold spec_LabelOk.f; simp only [spec_l1In_eq, Option.bind_some]

theorem unit_ev : Ev (fun k => impl_UnitCost.f k) (unitL, unitL, unitR) := ev_mono (K := 200) (fun k => impl_UnitCost.mono k) (by kernel_rfl)
theorem diag_at (r : List Int) (d : Nat) : ∀ j : Nat, diagGo r d j = true → ∀ i : Nat, j ≤ i → i < j + d → rd r ((i : Int) * 6 + i) = 0 := by
  induction d with
  | zero => intro j _ i h1 h2; omega
  | succ d ih =>
    intro j h i h1 h2
    simp only [diagGo] at h
    by_cases c : rd r ((j : Int) * 6 + j) = 0
    · rw [if_pos c] at h
      by_cases e : i = j
      · subst e; exact c
      · exact ih (j + 1) h i (by omega) (by omega)
    · rw [if_neg c] at h; cases h
theorem rel_same (a b r : List Int) (i : Int) : relT a b r i i = 0 := by
  unfold relT
  by_cases h : costT a b r = true ∧ (0 ≤ i ∧ i ≤ 5) ∧ 0 ≤ i ∧ i ≤ 5
  · rw [if_pos h]
    obtain ⟨n, rfl⟩ := Int.eq_ofNat_of_zero_le h.2.1.1
    have hc := h.1
    unfold costT at hc
    by_cases h1 : pricesT a 6 = true
    · by_cases h2 : pricesT b 6 = true
      · by_cases h3 : pricesT r 36 = true
        · rw [if_pos h1, if_pos h2, if_pos h3] at hc
          exact diag_at r 6 0 hc n (by omega) (by omega)
        · rw [if_pos h1, if_pos h2, if_neg h3] at hc; cases hc
      · rw [if_pos h1, if_neg h2] at hc; cases hc
    · rw [if_neg h1] at hc; cases hc
  · rw [if_neg h]
theorem costs_j1 (a b r : List Int) (x y : Int) (ha : a.length ≤ 1048576) (hb : b.length ≤ 1048576) (hr : r.length ≤ 1048576) (h : ¬ (costT a b r = true ∧ (0 ≤ x ∧ x ≤ 5) ∧ 0 ≤ y ∧ y ≤ 5)) (hx : costT a b r = true ∨ ¬ costT a b r = true) : Ev (fun k => laws_FnCosts.j1 k x y (relT a b r x y) true a b r) true := by
  have e : relT a b r x y = 0 := by unfold relT; rw [if_neg h]
  refine Ev.step (fun k => by rw [laws_FnCosts.j1]) ?_
  simp only [if_true, e, spec_LabelOk_eq, Option.bind_some, decide_eq_true_eq]
  by_cases c : 0 ≤ x ∧ x ≤ 5
  · simp only [if_pos c]; exact Ev.now _
  · simp only [if_neg c]
    refine Ev.bind (impl_DelCost_ev a b r x ha hb hr) ?_
    have e2 : delT a b r x = 0 := by unfold delT; rw [if_neg (fun q => c q.2)]
    rw [e2]
    exact evSome (by simp)
theorem costs_j0 (a b r : List Int) (x y : Int) (ha : a.length ≤ 1048576) (hb : b.length ≤ 1048576) (hr : r.length ≤ 1048576) : Ev (fun k => laws_FnCosts.j0 k x y (relT a b r x y) false a b r) true := by
  refine Ev.step (fun k => by rw [laws_FnCosts.j0]) ?_
  simp only [Bool.false_eq_true, if_false]
  refine Ev.bind (spec_CostOk_ev a b r ha hb hr) ?_
  by_cases h1 : costT a b r = true
  · simp only [if_pos h1, spec_LabelOk_eq, Option.bind_some, decide_eq_true_eq]
    by_cases h2 : 0 ≤ x ∧ x ≤ 5
    · simp only [if_pos h2]
      by_cases h3 : 0 ≤ y ∧ y ≤ 5
      · have hl := costT_len h1
        rw [decide_eq_true h3]
        simp only [Bool.not_true]
        have c1 : 0 ≤ x * 6 + y := by omega
        have c2 : x * 6 + y < (r.length : Int) := by omega
        have c3 : x < (a.length : Int) := by omega
        have c4 : y < (b.length : Int) := by omega
        have e1 : wrap64 (wrap64 (x * 6) + y) = x * 6 + y := by rw [w64 (n := x * 6) (by omega) (by omega), w64 (by omega) (by omega)]
        have er : relT a b r x y = rd r (x * 6 + y) := by unfold relT; rw [if_pos ⟨h1, h2, h3⟩]
        have ed : delT a b r x = rd a x := by unfold delT; rw [if_pos ⟨h1, h2⟩]
        have ei : insT a b r y = rd b y := by unfold insT; rw [if_pos ⟨h1, h3⟩]
        refine Ev.step (fun k => by rw [laws_FnCosts.j1]) ?_
        simp only [Bool.false_eq_true, if_false, e1, if_pos c1, if_pos c2, er, if_true]
        refine Ev.bind (impl_DelCost_ev a b r x ha hb hr) ?_
        simp only [if_pos h2.1, if_pos c3, ed, if_true]
        refine Ev.bind (impl_InsCost_ev a b r y ha hb hr) ?_
        simp only [if_pos h3.1, if_pos c4, ei, if_true]
        refine Ev.bind (impl_RelCost_ev a b r x x ha hb hr) ?_
        rw [rel_same]
        exact evSome (by simp)
      · rw [decide_eq_false h3]
        simp only [Bool.not_false]
        exact costs_j1 a b r x y ha hb hr (fun q => h3 q.2.2) (.inl h1)
    · simp only [if_neg h2]
      exact costs_j1 a b r x y ha hb hr (fun q => h2 q.2.1) (.inl h1)
  · simp only [if_neg h1]
    exact costs_j1 a b r x y ha hb hr (fun q => h1 q.1) (.inr h1)
theorem law : laws_FnCosts.Pure := by
  intro c hc1 hc2 _
  refine Ev.rounds ?_
  unfold laws_FnCosts.f
  simp only [big_eq, Option.bind_some, decide_eq_true_eq]
  by_cases hbig : (c.length : Int) > 1048576
  · simp only [if_pos hbig]; exact Ev.now _
  · simp only [if_neg hbig]
    have hc : c.length ≤ 1048576 := by omega
    obtain ⟨h, hn⟩ := new_ok c hc
    obtain ⟨a, b, r, i1, h1, g1, hl, hi1⟩ := l7Any_ok c hc 0 h (by omega)
    obtain ⟨x, i2, h2, f2, _, hi2⟩ := any_ok c hc i1 h1 hi1
    obtain ⟨y, i3, h3, f3, _, _⟩ := any_ok c hc i2 h2 hi2
    have hd : Ev (fun k => spec_DrawRelCost.f k c) (a, b, r, x, y) := by
      unfold spec_DrawRelCost.f
      refine Ev.bind hn (Ev.bind g1 ?_)
      simp only [f2, f3, Option.bind_some]
      exact Ev.now _
    have ha : a.length ≤ 1048576 := by omega
    have hb : b.length ≤ 1048576 := by omega
    have hr : r.length ≤ 1048576 := by omega
    refine Ev.bind hd (Ev.bind (impl_RelCost_ev a b r x y ha hb hr) (Ev.bind (impl_CostOk_ev a b r ha hb hr) (Ev.bind (spec_CostOk_ev a b r ha hb hr) ?_)))
    simp only [bne_self_eq_false, Bool.false_eq_true, if_false]
    refine Ev.bind unit_ev (Ev.bind (impl_CostOk_ev unitL unitL unitR (by decide) (by decide) (by decide)) ?_)
    have eu : costT unitL unitL unitR = true := by kernel_rfl
    simp only [if_pos eu]
    refine Ev.bind unit_ev (Ev.bind (impl_RelCost_ev unitL unitL unitR 1 2 (by decide) (by decide) (by decide)) ?_)
    have ev : relT unitL unitL unitR 1 2 = 1 := by unfold relT; rw [if_pos ⟨eu, by omega, by omega⟩]; rfl
    rw [ev]
    exact costs_j0 a b r x y ha hb hr

end Go.Proofs.Yteflhablmeelbaa.PureFnCosts
namespace Go.Proofs.Yteflhablmeelbaa.Pure
open Go.RowKit Go.Proofs.Yteflhablmeelbaa.HFnCosts
theorem FnCosts : laws_FnCosts.Pure := Go.Proofs.Yteflhablmeelbaa.PureFnCosts.law
end Go.Proofs.Yteflhablmeelbaa.Pure
