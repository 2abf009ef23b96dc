/- For every cost, the program's PutCost and the reference's PutCost return the same. Condition: none but the model's own bounds. -/
import Derived.Test.YtbdjconojnjgdaaHFnExactPutCostx4
import Derived.Test.YtbdjconojnjgdaaM
import Derived.Test.YtbdjconojnjgdaaMB
import Derived.Test.YtbdjconojnjgdaaTB
namespace Go.Proofs.Ytbdjconojnjgdaa.PureFnExactPutCost
open Go.RowKit Go.Proofs.Ytbdjconojnjgdaa.HFnExactPutCost Go.Proofs.YtbdjconojnjgdaaW.PrintWords Go.Proofs.YtbdjconojnjgdaaW.PrintLast Go.Proofs.YtbdjconojnjgdaaW.PrintMore Go.Proofs.Ytbdjconojnjgdaa.M
set_option linter.unusedVariables false
set_option linter.unusedSimpArgs false

def pricesT (l : List Int) (n : Int) : Bool := decide ((l.length : Int) = n) && decide (∀ x ∈ l, 0 ≤ x ∧ x ≤ 1000)
theorem pricesT_iff (l : List Int) (n : Int) : pricesT l n = true ↔ (l.length : Int) = n ∧ ∀ x ∈ l, 0 ≤ x ∧ x ≤ 1000 := by
  unfold pricesT; rw [Bool.and_eq_true, decide_eq_true_iff, decide_eq_true_iff]
def diagGo (r : List Int) : Nat → Nat → Bool
  | 0, _ => true
  | d + 1, j => if rd r ((j : Int) * 6 + j) = 0 then diagGo r d (j + 1) else false
def costT (a b r : List Int) : Bool := if pricesT a 6 = true then if pricesT b 6 = true then if pricesT r 36 = true then diagGo r 6 0 else false else false else false
def delT (a b r : List Int) (i : Int) : Int := if costT a b r = true ∧ 0 ≤ i ∧ i ≤ 5 then rd a i else 0
def insT (a b r : List Int) (i : Int) : Int := if costT a b r = true ∧ 0 ≤ i ∧ i ≤ 5 then rd b i else 0
def relT (a b r : List Int) (i j : Int) : Int := if costT a b r = true ∧ (0 ≤ i ∧ i ≤ 5) ∧ 0 ≤ j ∧ j ≤ 5 then rd r (i * 6 + j) else 0
theorem costT_len {a b r : List Int} (h : costT a b r = true) : a.length = 6 ∧ b.length = 6 ∧ r.length = 36 := by
  unfold costT at h
  by_cases h1 : pricesT a 6 = true
  · by_cases h2 : pricesT b 6 = true
    · by_cases h3 : pricesT r 36 = true
      · have := ((pricesT_iff a 6).1 h1).1
        have := ((pricesT_iff b 6).1 h2).1
        have := ((pricesT_iff r 36).1 h3).1
        omega
      · rw [if_pos h1, if_pos h2, if_neg h3] at h; cases h
    · rw [if_pos h1, if_neg h2] at h; cases h
  · rw [if_neg h1] at h; cases h

/-- Numbers, one behind the other. -/
def catV : List Int → ByteArray
  | [] => ⟨#[]⟩
  | x :: l => varS x ++ catV l
def putC (a b r : List Int) : ByteArray := if costT a b r = true then catV (a ++ b ++ r) else ⟨#[]⟩
/-- So many numbers from place a on, behind others. -/
def numsGo (s : ByteArray) : Nat → Nat → List Int → Option (List Int × Nat)
  | 0, a, acc => some (acc, a)
  | d + 1, a, acc => if (readVar (s.extract a s.size)).2 = 0 then none else numsGo s d (a + (readVar (s.extract a s.size)).2.toNat) (acc ++ [(readVar (s.extract a s.size)).1])
def getC (s : ByteArray) : List Int × List Int × List Int × Bool :=
  match numsGo s 48 0 [] with
  | none => ([], [], [], false)
  | some (l, a) => if a = s.size ∧ costT (l.take 6) ((l.take 12).drop 6) (l.drop 12) = true then (l.take 6, (l.take 12).drop 6, l.drop 12, true) else ([], [], [], false)
theorem numsGo_len (s : ByteArray) (d : Nat) : ∀ (a : Nat) (acc l : List Int) (e : Nat), a ≤ s.size → numsGo s d a acc = some (l, e) → l.length = acc.length + d ∧ e ≤ s.size := by
  induction d with
  | zero => intro a acc l e ha h; simp only [numsGo, Option.some.injEq, Prod.mk.injEq] at h; rw [← h.1, ← h.2]; exact ⟨rfl, ha⟩
  | succ d ih =>
    intro a acc l e ha h
    simp only [numsGo] at h
    have hr := readVar_range (s.extract a s.size)
    rw [tail_size] at hr
    by_cases c : (readVar (s.extract a s.size)).2 = 0
    · rw [if_pos c] at h; cases h
    · rw [if_neg c] at h
      have := ih _ _ l e (by omega) h
      rw [List.length_append, List.length_singleton] at this
      omega

/-! laws_szIntS -/
theorem szI_eq (l : List Int) (hl : l.length ≤ maxLen) (a : Int) (h0 : 0 ≤ a) (h1 : a ≤ 1048576) : laws_szIntS.f l a = some (if a < l.length then -1 else a - l.length) := by
  have hm : maxLen = 9223372036854775807 := rfl
  unfold laws_szIntS.f
  rw [w64 (by omega) (by omega)]
  by_cases h : a < l.length
  · rw [if_pos h, if_pos (by omega)]
  · rw [if_neg h, if_neg (by omega)]

/-! laws_szCost -/
theorem szC_eq (a b c : List Int) (ha : a.length ≤ maxLen) (hb : b.length ≤ maxLen) (hc : c.length ≤ maxLen) (x : Int) (h0 : 0 ≤ x) (h1 : x ≤ 1048576) :
    laws_szCost.f a b c x = some (if x < a.length + b.length + c.length then -1 else x - a.length - b.length - c.length) := by
  unfold laws_szCost.f
  rw [szI_eq a ha x h0 h1]
  simp only [Option.bind_some]
  by_cases g1 : x < a.length
  · rw [if_pos g1, if_pos (by omega), if_pos (by omega)]
  · rw [if_neg g1, if_neg (by omega), szI_eq b hb _ (by omega) (by omega)]
    simp only [Option.bind_some]
    by_cases g2 : x - a.length < b.length
    · rw [if_pos g2, if_pos (by omega), if_pos (by omega)]
    · rw [if_neg g2, if_neg (by omega), szI_eq c hc _ (by omega) (by omega)]
      simp only [Option.bind_some]
      by_cases g3 : x - a.length - b.length < c.length
      · rw [if_pos g3, if_pos (by omega), if_pos (by omega)]
      · rw [if_neg g3, if_neg (by omega), if_neg (by omega)]

/-! spec_l1In -/
theorem spec_l1In_eq (a b c : Int) : spec_l1In.f a b c = some (decide (b ≤ a ∧ a ≤ c)) := by
  unfold spec_l1In.f
  by_cases h : b ≤ a
  · rw [if_pos h]; simp [h]
  · rw [if_neg h]; simp [h]

/-! spec_l7In -/
theorem spec_l7In_l0 (l : List Int) (hl : l.length ≤ 1048576) (n : Int) (d : Nat) : ∀ j : Nat, j + d = l.length → (∀ x ∈ l.take j, 0 ≤ x ∧ x ≤ 1000) → Ev (fun k => spec_l7In.l0 k l n j) (pricesT l n) := by
  induction d with
  | zero =>
    intro j hj hall
    refine Ev.step (fun k => by simp only [spec_l7In.l0]; rw [if_neg (by omega)]) ?_
    refine evSome ?_
    rw [List.take_of_length_le (by omega)] at hall
    unfold pricesT
    rw [decide_eq_true hall, Bool.and_true]
    rfl
  | succ d ih =>
    intro j hj hall
    have hjl : j < l.length := by omega
    have c1 : (j : Int) < (l.length : Int) := by omega
    have c2 : (0 : Int) ≤ (j : Int) := by omega
    have e4 : wrap64 ((j : Int) + 1) = ((j + 1 : Nat) : Int) := by rw [w64 (by omega) (by omega)]; rfl
    have er : rd l (j : Int) = l[j] := by unfold rd; simp [List.getD_eq_getElem?_getD, List.getElem?_eq_getElem hjl]
    refine Ev.step (fun k => by simp only [spec_l7In.l0]; rw [if_pos c1, if_pos c2, e4, er]) ?_
    simp only [spec_l1In_eq, Option.bind_some, decide_eq_true_eq]
    by_cases h : 0 ≤ l[j] ∧ l[j] ≤ 1000
    · simp only [if_pos h]
      refine ih (j + 1) (by omega) ?_
      rw [List.take_succ_eq_append_getElem hjl]
      intro x hx
      rcases List.mem_append.1 hx with hx | hx
      · exact hall x hx
      · rw [List.mem_singleton.1 hx]; exact h
    · simp only [if_neg h]
      refine evSome ?_
      unfold pricesT
      rw [decide_eq_false (fun ha : ∀ x ∈ l, 0 ≤ x ∧ x ≤ 1000 => h (ha _ (List.getElem_mem hjl))), Bool.and_false]
theorem spec_l7In_ev (l : List Int) (hl : l.length ≤ 1048576) (n : Int) : Ev (fun k => spec_l7In.f k l n) (pricesT l n) := by
  unfold spec_l7In.f
  exact spec_l7In_l0 l hl n l.length 0 (by omega) (by simp)

/-! spec_CostOk -/
theorem spec_CostOk_l0 (a b r : List Int) (hr : r.length = 36) (d : Nat) : ∀ j : Nat, j + d = 6 → Ev (fun k => spec_CostOk.l0 k j a b r) (diagGo r d j) := by
  induction d with
  | zero =>
    intro j hj
    exact Ev.step (f := fun _ => some true) (fun k => by simp only [spec_CostOk.l0]; rw [if_neg (by omega)]) (Ev.now _)
  | succ d ih =>
    intro j hj
    have c1 : (j : Int) < 6 := by omega
    have c2 : (0 : Int) ≤ (j : Int) * 6 + j := by omega
    have c3 : (j : Int) * 6 + j < (r.length : Int) := by omega
    have e1 : wrap64 (wrap64 ((j : Int) * 6) + j) = (j : Int) * 6 + j := by rw [w64 (n := (j : Int) * 6) (by omega) (by omega), w64 (by omega) (by omega)]
    have e4 : wrap64 ((j : Int) + 1) = ((j + 1 : Nat) : Int) := by rw [w64 (by omega) (by omega)]; rfl
    refine Ev.step (fun k => by simp only [spec_CostOk.l0]; rw [if_pos c1, e1, e4, if_pos c2, if_pos c3]) ?_
    simp only [diagGo]
    by_cases h : rd r ((j : Int) * 6 + j) = 0
    · simp only [if_pos h]; exact ih (j + 1) (by omega)
    · simp only [if_neg h]; exact Ev.now _
theorem spec_CostOk_no (a b r : List Int) : Ev (fun k => spec_CostOk.j0 k true a b r) false := by
  refine Ev.step (fun k => by rw [spec_CostOk.j0]) ?_
  simp only [if_true]; exact Ev.now _
theorem spec_CostOk_ev (a b r : List Int) (ha : a.length ≤ 1048576) (hb : b.length ≤ 1048576) (hr : r.length ≤ 1048576) : Ev (fun k => spec_CostOk.f k a b r) (costT a b r) := by
  unfold spec_CostOk.f costT
  refine Ev.bind (spec_l7In_ev a ha 6) ?_
  by_cases h1 : pricesT a 6 = true
  · rw [h1]
    simp only [if_true]
    refine Ev.bind (spec_l7In_ev b hb 6) ?_
    by_cases h2 : pricesT b 6 = true
    · rw [h2]
      simp only [if_true]
      refine Ev.bind (spec_l7In_ev r hr 36) ?_
      by_cases h3 : pricesT r 36 = true
      · rw [h3]
        refine Ev.step (fun k => by rw [spec_CostOk.j0]) ?_
        simp only [Bool.not_true, Bool.false_eq_true, if_false, if_true]
        have hl := ((pricesT_iff r 36).1 h3).1
        exact spec_CostOk_l0 a b r (by omega) 6 0 rfl
      · rw [Bool.eq_false_iff.mpr h3]
        simp only [Bool.not_false, Bool.false_eq_true, if_false]
        exact spec_CostOk_no a b r
    · rw [Bool.eq_false_iff.mpr h2]
      simp only [Bool.false_eq_true, if_false]
      exact spec_CostOk_no a b r
  · rw [Bool.eq_false_iff.mpr h1]
    simp only [Bool.false_eq_true, if_false]
    exact spec_CostOk_no a b r

/-! spec_Var -/
theorem spec_Var_l0 : ∀ (n : Nat) (acc : List Int), n < 9223372036854775808 → acc.length + (varB n).length ≤ 140737488355328 → Ev (fun k => spec_Var.l0 k n acc) (strOfNums (acc ++ varB n)) := by
  intro n
  induction n using Nat.strongRecOn with
  | _ n ih =>
    intro acc hn hl
    by_cases h : n < 128
    · rw [varB_lt h] at hl ⊢
      simp only [List.length_cons, List.length_nil] at hl
      refine Ev.step (fun k => by simp only [spec_Var.l0]; rw [if_neg (by omega), if_pos (by omega)]) ?_
      refine evSome ?_
      rw [Int.emod_eq_of_lt (by omega) (by omega)]
    · rw [varB_ge h] at hl ⊢
      simp only [List.length_cons] at hl
      refine Ev.step (fun k => by simp only [spec_Var.l0]; rw [if_pos (by omega), if_pos (by omega)]) ?_
      have e1 : wrap64 (Int.tdiv (n : Int) 128) = ((n / 128 : Nat) : Int) := by
        rw [Int.tdiv_eq_ediv_of_nonneg (by omega), w64 (by omega) (by omega)]; rfl
      have e2 : (wrap64 (128 + Int.tmod (n : Int) 128)) % 256 = 128 + (n : Int) % 128 := by
        rw [Int.tmod_eq_emod_of_nonneg (by omega), w64 (by omega) (by omega)]; omega
      rw [e1, e2]
      have := ih (n / 128) (by omega) (acc ++ [128 + (n : Int) % 128]) (by omega) (by simp only [List.length_append, List.length_cons, List.length_nil]; omega)
      simpa only [List.append_assoc, List.cons_append, List.nil_append] using this
theorem spec_Var_ev (n : Int) : Ev (fun k => spec_Var.f k n) (varS n) := by
  unfold spec_Var.f varS
  simp only [spec_l1In_eq, Option.bind_some, decide_eq_true_eq]
  by_cases h : 0 ≤ n ∧ n ≤ 562949953421311
  · rw [if_pos h]
    simp only [if_pos h]
    obtain ⟨m, rfl⟩ := Int.eq_ofNat_of_zero_le h.1
    have hl := varB_len 7 m (by omega)
    have := spec_Var_l0 m [] (by omega) (by simp; omega)
    simpa only [List.nil_append, Int.toNat_natCast] using this
  · rw [if_neg h]
    simp only [if_neg h]
    exact Ev.now _

/-! spec_PutCost -/
theorem catV_len : ∀ l : List Int, (catV l).size ≤ 8 * l.length
  | [] => Nat.le_refl _
  | x :: l => by
    have h := catV_len l
    have h2 := varS_size x
    simp only [catV, ByteArray.size_append, List.length_cons]; omega
theorem catV_drop (l : List Int) (j : Nat) (h : j < l.length) : catV (l.drop j) = varS (rd l (j : Int)) ++ catV (l.drop (j + 1)) := by
  rw [List.drop_eq_getElem_cons h]
  have e : rd l (j : Int) = l[j] := by unfold rd; simp [List.getD_eq_getElem?_getD, h]
  rw [e]; rfl
theorem nilB_app (s : ByteArray) : (⟨#[]⟩ : ByteArray) ++ s = s := by
  apply ba_ext; rw [toList_data, toList_data, ByteArray.data_append]; simp
theorem appB_nil (s : ByteArray) : s ++ (⟨#[]⟩ : ByteArray) = s := by
  apply ba_ext; rw [toList_data, toList_data, ByteArray.data_append]; simp
theorem spec_PutCost_l0 (l : List Int) (hl : l.length ≤ 1048576) (d : Nat) : ∀ (j : Nat) (s : ByteArray), j + d = l.length → s.size ≤ 8 * j → Ev (fun k => spec_PutCost.l0 k s l j) (s ++ catV (l.drop j)) := by
  induction d with
  | zero =>
    intro j s hj hs
    have c0 : ¬ ((j : Int) < (l.length : Int)) := by omega
    refine Ev.step (f := fun _ => some s) (fun k => by rw [spec_PutCost.l0, if_neg c0]) ?_
    rw [List.drop_of_length_le (by omega)]
    simp only [catV, appB_nil]
    exact Ev.now _
  | succ d ih =>
    intro j s hj hs
    have c0 : (j : Int) < (l.length : Int) := by omega
    have c1 : (0 : Int) ≤ (j : Int) := Int.natCast_nonneg _
    have v1 := varS_size (rd l (j : Int))
    have s1 : s.size + (varS (rd l (j : Int))).size ≤ 9223372036854775807 := by omega
    have e4 : wrap64 ((j : Int) + 1) = ((j + 1 : Nat) : Int) := by rw [w64 (by omega) (by omega)]; rfl
    refine Ev.step (fun k => by rw [spec_PutCost.l0, if_pos c0, if_pos c1, e4]) ?_
    refine Ev.bind (spec_Var_ev _) ?_
    simp only [if_pos s1]
    rw [catV_drop l j (by omega), ← ByteArray.append_assoc]
    exact ih (j + 1) _ (by omega) (by rw [ByteArray.size_append]; omega)
theorem spec_PutCost_ev (a b r : List Int) (ha : a.length ≤ 1048576) (hb : b.length ≤ 1048576) (hr : r.length ≤ 1048576) : Ev (fun k => spec_PutCost.f k a b r) (putC a b r) := by
  unfold spec_PutCost.f putC
  refine Ev.bind (spec_CostOk_ev a b r ha hb hr) ?_
  by_cases h : costT a b r = true
  · have hl := costT_len h
    simp only [if_pos h, Option.bind_some, List.nil_append, List.length_nil, List.length_append]
    simp only [if_pos (show 0 + a.length < 17592186044416 by omega), if_pos (show 0 + a.length + b.length < 17592186044416 by omega), if_pos (show 0 + a.length + b.length + r.length < 17592186044416 by omega)]
    have := spec_PutCost_l0 (a ++ b ++ r) (by simp; omega) (a ++ b ++ r).length 0 ⟨#[]⟩ (by omega) (Nat.le_refl _)
    rw [List.drop_zero, nilB_app] at this
    exact this
  · simp only [if_neg h]; exact Ev.now _

/-! laws_toIntS -/
theorem setI_grow (xs : List Int) (i : Nat) (x : Int) (m : Nat) (h : xs.length = i) : (xs ++ List.replicate (m + 1) (0 : Int)).set i x = (xs ++ [x]) ++ List.replicate m 0 := by
  rw [List.set_append_right _ _ (by omega), List.replicate_succ]
  simp [h]
theorem toIntS_l0 (l : List Int) (hl : l.length ≤ 1048576) (d : Nat) : ∀ i : Nat, i + d = l.length → Ev (fun k => laws_toIntS.l0 k l (l.take i ++ List.replicate d 0) i) l := by
  induction d with
  | zero =>
    intro i hi
    refine Ev.step (fun k => by simp only [laws_toIntS.l0]; rw [if_neg (by omega)]) ?_
    have e : i = l.length := by omega
    subst e
    exact evSome (by simp)
  | succ d ih =>
    intro i hi
    have c3 : (i : Int) < (((l.take i ++ List.replicate (d + 1) (0 : Int)).length : Nat) : Int) := by simp; omega
    have e4 : wrap64 ((i : Int) + 1) = ((i + 1 : Nat) : Int) := by rw [w64 (by omega) (by omega)]; rfl
    have hil : i < l.length := by omega
    have er : rd l (i : Int) = l[i] := by unfold rd; simp [List.getD_eq_getElem?_getD, List.getElem?_eq_getElem hil]
    refine Ev.step (fun k => by simp only [laws_toIntS.l0]; rw [if_pos (by omega), if_pos (by omega), if_pos c3, e4, er, Int.toNat_natCast, setI_grow _ _ _ _ (by simp; omega)]) ?_
    have := ih (i + 1) (by omega)
    rw [List.take_succ_eq_append_getElem hil] at this
    exact this
theorem toIntS_ev (l : List Int) (hl : l.length ≤ 1048576) : Ev (fun k => laws_toIntS.f k l) l := by
  unfold laws_toIntS.f
  have := toIntS_l0 l hl l.length 0 (by omega)
  simp only [Int.toNat_natCast, if_pos (show (0 : Int) ≤ (l.length : Int) by omega), if_pos (show l.length ≤ 35184372088832 by omega)]
  simpa using this

/-! laws_toCost -/
theorem toCost_ev (a b c : List Int) (ha : a.length ≤ 1048576) (hb : b.length ≤ 1048576) (hc : c.length ≤ 1048576) : Ev (fun k => laws_toCost.f k a b c) (a, b, c) := by
  unfold laws_toCost.f
  exact Ev.bind (toIntS_ev a ha) (Ev.bind (toIntS_ev b hb) (Ev.bind (toIntS_ev c hc) (Ev.now _)))

/-! impl_within -/
theorem impl_within_eq (a b c : Int) : impl_within.f a b c = some (decide (b ≤ a ∧ a ≤ c)) := by
  unfold impl_within.f
  by_cases h : b ≤ a
  · rw [if_pos h]; simp [h]
  · rw [if_neg h]; simp [h]

/-! impl_pricesOk -/
theorem impl_pricesOk_eq (l : List Int) (n : Int) : impl_pricesOk.f l n = some (pricesT l n) := by
  unfold impl_pricesOk.f pricesT
  congr 2
  have h := badGo_all l 0
  by_cases g : ∀ x ∈ l, priceB x = true
  · have g2 : ¬ (0 ≤ badGo l 0) := fun e => (h.1 e) g
    have g3 : ∀ x ∈ l, 0 ≤ x ∧ x ≤ 1000 := fun x hx => by have := g x hx; unfold priceB at this; exact of_decide_eq_true this
    rw [decide_eq_false g2, decide_eq_true g3]; rfl
  · have g2 : 0 ≤ badGo l 0 := h.2 g
    have g3 : ¬ ∀ x ∈ l, 0 ≤ x ∧ x ≤ 1000 := fun e => g (fun x hx => by unfold priceB; exact decide_eq_true (e x hx))
    rw [decide_eq_true g2, decide_eq_false g3]; rfl

/-! impl_CostOk -/
theorem impl_CostOk_l0 (a b r : List Int) (hr : r.length = 36) (d : Nat) : ∀ j : Nat, j + d = 6 → Ev (fun k => impl_CostOk.l0 k j a b r) (diagGo r d j) := by
  induction d with
  | zero =>
    intro j hj
    exact Ev.step (f := fun _ => some true) (fun k => by simp only [impl_CostOk.l0]; rw [if_neg (by omega)]) (Ev.now _)
  | succ d ih =>
    intro j hj
    have c1 : (j : Int) < 6 := by omega
    have c2 : (0 : Int) ≤ (j : Int) * 6 + j := by omega
    have c3 : (j : Int) * 6 + j < (r.length : Int) := by omega
    have e1 : wrap64 (wrap64 ((j : Int) * 6) + j) = (j : Int) * 6 + j := by rw [w64 (n := (j : Int) * 6) (by omega) (by omega), w64 (by omega) (by omega)]
    have e4 : wrap64 ((j : Int) + 1) = ((j + 1 : Nat) : Int) := by rw [w64 (by omega) (by omega)]; rfl
    refine Ev.step (fun k => by simp only [impl_CostOk.l0]; rw [if_pos c1, e1, e4, if_pos c2, if_pos c3]) ?_
    simp only [diagGo]
    by_cases h : rd r ((j : Int) * 6 + j) = 0
    · simp only [if_pos h]; exact ih (j + 1) (by omega)
    · simp only [if_neg h]; exact Ev.now _
theorem impl_CostOk_no (a b r : List Int) : Ev (fun k => impl_CostOk.j0 k true a b r) false := by
  refine Ev.step (fun k => by rw [impl_CostOk.j0]) ?_
  simp only [if_true]; exact Ev.now _
theorem impl_CostOk_ev (a b r : List Int) (ha : a.length ≤ 1048576) (hb : b.length ≤ 1048576) (hr : r.length ≤ 1048576) : Ev (fun k => impl_CostOk.f k a b r) (costT a b r) := by
  unfold impl_CostOk.f costT
  simp only [impl_pricesOk_eq, Option.bind_some]
  by_cases h1 : pricesT a 6 = true
  · rw [h1]
    simp only [if_true]
    skip
    by_cases h2 : pricesT b 6 = true
    · rw [h2]
      simp only [if_true]
      skip
      by_cases h3 : pricesT r 36 = true
      · rw [h3]
        refine Ev.step (fun k => by rw [impl_CostOk.j0]) ?_
        simp only [Bool.not_true, Bool.false_eq_true, if_false, if_true]
        have hl := ((pricesT_iff r 36).1 h3).1
        exact impl_CostOk_l0 a b r (by omega) 6 0 rfl
      · rw [Bool.eq_false_iff.mpr h3]
        simp only [Bool.not_false, Bool.false_eq_true, if_false]
        exact impl_CostOk_no a b r
    · rw [Bool.eq_false_iff.mpr h2]
      simp only [Bool.false_eq_true, if_false]
      exact impl_CostOk_no a b r
  · rw [Bool.eq_false_iff.mpr h1]
    simp only [Bool.false_eq_true, if_false]
    exact impl_CostOk_no a b r

/-! impl_Var -/
theorem impl_Var_l0 : ∀ (n : Nat) (acc : List Int), n < 9223372036854775808 → acc.length + (varB n).length ≤ 140737488355328 → Ev (fun k => impl_Var.l0 k n acc) (strOfNums (acc ++ varB n)) := by
  intro n
  induction n using Nat.strongRecOn with
  | _ n ih =>
    intro acc hn hl
    by_cases h : n < 128
    · rw [varB_lt h] at hl ⊢
      simp only [List.length_cons, List.length_nil] at hl
      refine Ev.step (fun k => by simp only [impl_Var.l0]; rw [if_neg (by omega), if_pos (by omega)]) ?_
      refine evSome ?_
      rw [Int.emod_eq_of_lt (by omega) (by omega)]
    · rw [varB_ge h] at hl ⊢
      simp only [List.length_cons] at hl
      refine Ev.step (fun k => by simp only [impl_Var.l0]; rw [if_pos (by omega), if_pos (by omega)]) ?_
      have e1 : (n : Int) / 128 = ((n / 128 : Nat) : Int) := by omega
      have e2 : Go.bits .or .u8 ((Go.bits .and .i64 (n : Int) 127) % 256) 128 = 128 + (n : Int) % 128 := by
        rw [and127_i64 (by omega) (by omega), Int.emod_eq_of_lt (a := (n : Int) % 128) (by omega) (by omega), or128_u8 (by omega) (by omega)]
      rw [e1, e2]
      have := ih (n / 128) (by omega) (acc ++ [128 + (n : Int) % 128]) (by omega) (by simp only [List.length_append, List.length_cons, List.length_nil]; omega)
      simpa only [List.append_assoc, List.cons_append, List.nil_append] using this
theorem impl_Var_ev (n : Int) : Ev (fun k => impl_Var.f k n) (varS n) := by
  unfold impl_Var.f varS
  simp only [impl_within_eq, Option.bind_some, decide_eq_true_eq]
  by_cases h : 0 ≤ n ∧ n ≤ 562949953421311
  · rw [if_pos h]
    simp only [if_pos h]
    obtain ⟨m, rfl⟩ := Int.eq_ofNat_of_zero_le h.1
    have hl := varB_len 7 m (by omega)
    have := impl_Var_l0 m [] (by omega) (by simp; omega)
    simpa only [List.nil_append, Int.toNat_natCast] using this
  · rw [if_neg h]
    simp only [if_neg h]
    exact Ev.now _

/-! impl_PutCost -/
theorem impl_PutCost_l0 (l : List Int) (hl : l.length ≤ 1048576) (d : Nat) : ∀ (j : Nat) (s : ByteArray), j + d = l.length → s.size ≤ 8 * j → Ev (fun k => impl_PutCost.l0 k s l (l.length : Int) j) (s ++ catV (l.drop j)) := by
  induction d with
  | zero =>
    intro j s hj hs
    have c0 : ¬ ((j : Int) < (l.length : Int)) := by omega
    refine Ev.step (f := fun _ => some s) (fun k => by rw [impl_PutCost.l0, if_neg c0]) ?_
    rw [List.drop_of_length_le (by omega)]
    simp only [catV, appB_nil]
    exact Ev.now _
  | succ d ih =>
    intro j s hj hs
    have c0 : (j : Int) < (l.length : Int) := by omega
    have c1 : (0 : Int) ≤ (j : Int) := Int.natCast_nonneg _
    have v1 := varS_size (rd l (j : Int))
    have s1 : s.size + (varS (rd l (j : Int))).size ≤ 9223372036854775807 := by omega
    have e4 : wrap64 ((j : Int) + 1) = ((j + 1 : Nat) : Int) := by rw [w64 (by omega) (by omega)]; rfl
    refine Ev.step (fun k => by rw [impl_PutCost.l0, if_pos c0, if_pos c1, if_pos c0, e4]) ?_
    refine Ev.bind (impl_Var_ev _) ?_
    simp only [if_pos s1]
    rw [catV_drop l j (by omega), ← ByteArray.append_assoc]
    exact ih (j + 1) _ (by omega) (by rw [ByteArray.size_append]; omega)
theorem impl_PutCost_ev (a b r : List Int) (ha : a.length ≤ 1048576) (hb : b.length ≤ 1048576) (hr : r.length ≤ 1048576) : Ev (fun k => impl_PutCost.f k a b r) (putC a b r) := by
  unfold impl_PutCost.f putC
  refine Ev.bind (impl_CostOk_ev a b r ha hb hr) ?_
  by_cases h : costT a b r = true
  · have hl := costT_len h
    have hf : slices_Concat_int_int.f [a, b, r] = some (a ++ b ++ r) := by
      unfold slices_Concat_int_int.f
      have e : [a, b, r].flatten = a ++ b ++ r := by simp
      rw [e, if_pos ⟨by simp; omega, by simp only [List.length_cons, List.length_nil]; omega⟩]
    simp only [if_pos h, hf, Option.bind_some]
    have := impl_PutCost_l0 (a ++ b ++ r) (by simp; omega) (a ++ b ++ r).length 0 ⟨#[]⟩ (by omega) (Nat.le_refl _)
    rw [List.drop_zero, nilB_app] at this
    exact this
  · simp only [if_neg h]; exact Ev.now _

/-! laws_eqIntS -/
theorem eqIntS_l0 (l : List Int) (hl : l.length ≤ 1048576) (d : Nat) : ∀ i : Nat, i + d = l.length → Ev (fun k => laws_eqIntS.l0 k l l i) true := by
  induction d with
  | zero => intro i hi; exact Ev.step (fun k => by simp only [laws_eqIntS.l0]; rw [if_neg (by omega)]) (Ev.now _)
  | succ d ih =>
    intro i hi
    have e4 : wrap64 ((i : Int) + 1) = ((i + 1 : Nat) : Int) := by rw [w64 (by omega) (by omega)]; rfl
    refine Ev.step (fun k => by simp only [laws_eqIntS.l0]; rw [if_pos (by omega), if_pos (by omega), if_pos (by omega)]) ?_
    simp only [if_true, e4]
    exact ih (i + 1) (by omega)
theorem eqIntS_ev (l : List Int) (hl : l.length ≤ 1048576) : Ev (fun k => laws_eqIntS.f k l l) true := by
  unfold laws_eqIntS.f
  simp only [if_true]
  exact eqIntS_l0 l hl l.length 0 (by omega)

/-! laws_eqCost -/
theorem eqCost_ev (a b c : List Int) (ha : a.length ≤ 1048576) (hb : b.length ≤ 1048576) (hc : c.length ≤ 1048576) : Ev (fun k => laws_eqCost.f k a b c a b c) true := by
  unfold laws_eqCost.f
  refine Ev.bind (eqIntS_ev a ha) ?_
  simp only [if_true]
  refine Ev.bind (eqIntS_ev b hb) ?_
  simp only [if_true]
  refine Ev.bind (eqIntS_ev c hc) ?_
  simp only [if_true]
  exact Ev.now _

theorem law : ∀ (l0_0 : List Int) (l0_1 : List Int) (l0_2 : List Int), l0_0.length ≤ maxLen → (∀ x ∈ l0_0, (Lit.int .i64 x).wf = true) → l0_1.length ≤ maxLen → (∀ x ∈ l0_1, (Lit.int .i64 x).wf = true) → l0_2.length ≤ maxLen → (∀ x ∈ l0_2, (Lit.int .i64 x).wf = true) → ∃ k, laws_FnExactPutCost.f k l0_0 l0_1 l0_2 = some true := by
  intro x y z  hx _ hy _ hz _ 
  refine Ev.rounds ?_
  unfold laws_FnExactPutCost.f
  simp only [szC_eq x y z hx hy hz 1048576 (by omega) (by omega), Option.bind_some]
  by_cases h : (1048576 : Int) < x.length + y.length + z.length
  · simp only [if_pos h]; exact Ev.now _
  · have lx : x.length ≤ 1048576 := by omega
    have ly : y.length ≤ 1048576 := by omega
    have lz : z.length ≤ 1048576 := by omega
    simp only [if_neg h, if_neg (show ¬ (1048576 - (x.length : Int) - y.length - z.length < 0) by omega)]
    refine Ev.bind (toCost_ev x y z lx ly lz) (Ev.bind (spec_PutCost_ev x y z lx ly lz) (Ev.bind (toCost_ev x y z lx ly lz) (Ev.bind (impl_PutCost_ev x y z lx ly lz) ?_)))
    simp only [if_true]
    refine Ev.bind (toCost_ev x y z lx ly lz) (Ev.bind (eqCost_ev x y z lx ly lz) ?_)
    simp only [if_true]
    exact Ev.now _

end Go.Proofs.Ytbdjconojnjgdaa.PureFnExactPutCost
namespace Go.Proofs.Ytbdjconojnjgdaa.Pure
open Go.RowKit Go.Proofs.Ytbdjconojnjgdaa.HFnExactPutCost
theorem FnExactPutCost : ∀ (l0_0 : List Int) (l0_1 : List Int) (l0_2 : List Int), l0_0.length ≤ maxLen → (∀ x ∈ l0_0, (Lit.int .i64 x).wf = true) → l0_1.length ≤ maxLen → (∀ x ∈ l0_1, (Lit.int .i64 x).wf = true) → l0_2.length ≤ maxLen → (∀ x ∈ l0_2, (Lit.int .i64 x).wf = true) → ∃ k, laws_FnExactPutCost.f k l0_0 l0_1 l0_2 = some true := Go.Proofs.Ytbdjconojnjgdaa.PureFnExactPutCost.law
end Go.Proofs.Ytbdjconojnjgdaa.Pure
