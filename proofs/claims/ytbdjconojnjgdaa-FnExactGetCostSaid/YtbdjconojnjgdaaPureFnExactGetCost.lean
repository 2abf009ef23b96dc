/- For every text, the program's GetCost and the reference's GetCost give the same costs and the same word on them, in memory of their own. Condition: none but the model's own bound on a text's size. -/
import Derived.Test.YtbdjconojnjgdaaHFnExactGetCostx7
import Derived.Test.YtbdjconojnjgdaaM
import Derived.Test.YtbdjconojnjgdaaMB
import Derived.Test.YtbdjconojnjgdaaTB
namespace Go.Proofs.Ytbdjconojnjgdaa.PureFnExactGetCost
open Go.RowKit Go.Proofs.Ytbdjconojnjgdaa.HFnExactGetCost Go.Proofs.YtbdjconojnjgdaaW.PrintWords Go.Proofs.YtbdjconojnjgdaaW.PrintLast Go.Proofs.YtbdjconojnjgdaaW.PrintMore Go.Proofs.Ytbdjconojnjgdaa.M
set_option linter.unusedVariables false
set_option linter.unusedSimpArgs false

def pricesT (l : List Int) (n : Int) : Bool := decide ((l.length : Int) = n) && decide (∀ x ∈ l, 0 ≤ x ∧ x ≤ 1000)
theorem pricesT_iff (l : List Int) (n : Int) : pricesT l n = true ↔ (l.length : Int) = n ∧ ∀ x ∈ l, 0 ≤ x ∧ x ≤ 1000 := by
  unfold pricesT; rw [Bool.and_eq_true, decide_eq_true_iff, decide_eq_true_iff]
def diagGo (r : List Int) : Nat → Nat → Bool
  | 0, _ => true
  | d + 1, j => if rd r ((j : Int) * 6 + j) = 0 then diagGo r d (j + 1) else false
def costT (a b r : List Int) : Bool := if pricesT a 6 = true then if pricesT b 6 = true then if pricesT r 36 = true then diagGo r 6 0 else false else false else false
def delT (a b r : List Int) (i : Int) : Int := if costT a b r = true ∧ 0 ≤ i ∧ i ≤ 5 then rd a i else 0
def insT (a b r : List Int) (i : Int) : Int := if costT a b r = true ∧ 0 ≤ i ∧ i ≤ 5 then rd b i else 0
def relT (a b r : List Int) (i j : Int) : Int := if costT a b r = true ∧ (0 ≤ i ∧ i ≤ 5) ∧ 0 ≤ j ∧ j ≤ 5 then rd r (i * 6 + j) else 0
theorem costT_len {a b r : List Int} (h : costT a b r = true) : a.length = 6 ∧ b.length = 6 ∧ r.length = 36 := by
  unfold costT at h
  by_cases h1 : pricesT a 6 = true
  · by_cases h2 : pricesT b 6 = true
    · by_cases h3 : pricesT r 36 = true
      · have := ((pricesT_iff a 6).1 h1).1
        have := ((pricesT_iff b 6).1 h2).1
        have := ((pricesT_iff r 36).1 h3).1
        omega
      · rw [if_pos h1, if_pos h2, if_neg h3] at h; cases h
    · rw [if_pos h1, if_neg h2] at h; cases h
  · rw [if_neg h1] at h; cases h

/-- Numbers, one behind the other. -/
def catV : List Int → ByteArray
  | [] => ⟨#[]⟩
  | x :: l => varS x ++ catV l
def putC (a b r : List Int) : ByteArray := if costT a b r = true then catV (a ++ b ++ r) else ⟨#[]⟩
/-- So many numbers from place a on, behind others. -/
def numsGo (s : ByteArray) : Nat → Nat → List Int → Option (List Int × Nat)
  | 0, a, acc => some (acc, a)
  | d + 1, a, acc => if (readVar (s.extract a s.size)).2 = 0 then none else numsGo s d (a + (readVar (s.extract a s.size)).2.toNat) (acc ++ [(readVar (s.extract a s.size)).1])
def getC (s : ByteArray) : List Int × List Int × List Int × Bool :=
  match numsGo s 48 0 [] with
  | none => ([], [], [], false)
  | some (l, a) => if a = s.size ∧ costT (l.take 6) ((l.take 12).drop 6) (l.drop 12) = true then (l.take 6, (l.take 12).drop 6, l.drop 12, true) else ([], [], [], false)
theorem numsGo_len (s : ByteArray) (d : Nat) : ∀ (a : Nat) (acc l : List Int) (e : Nat), a ≤ s.size → numsGo s d a acc = some (l, e) → l.length = acc.length + d ∧ e ≤ s.size := by
  induction d with
  | zero => intro a acc l e ha h; simp only [numsGo, Option.some.injEq, Prod.mk.injEq] at h; rw [← h.1, ← h.2]; exact ⟨rfl, ha⟩
  | succ d ih =>
    intro a acc l e ha h
    simp only [numsGo] at h
    have hr := readVar_range (s.extract a s.size)
    rw [tail_size] at hr
    by_cases c : (readVar (s.extract a s.size)).2 = 0
    · rw [if_pos c] at h; cases h
    · rw [if_neg c] at h
      have := ih _ _ l e (by omega) h
      rw [List.length_append, List.length_singleton] at this
      omega

/-! laws_eqIntS -/
theorem eqIntS_l0 (l : List Int) (hl : l.length ≤ 1048576) (d : Nat) : ∀ i : Nat, i + d = l.length → Ev (fun k => laws_eqIntS.l0 k l l i) true := by
  induction d with
  | zero => intro i hi; exact Ev.step (fun k => by simp only [laws_eqIntS.l0]; rw [if_neg (by omega)]) (Ev.now _)
  | succ d ih =>
    intro i hi
    have e4 : wrap64 ((i : Int) + 1) = ((i + 1 : Nat) : Int) := by rw [w64 (by omega) (by omega)]; rfl
    refine Ev.step (fun k => by simp only [laws_eqIntS.l0]; rw [if_pos (by omega), if_pos (by omega), if_pos (by omega)]) ?_
    simp only [if_true, e4]
    exact ih (i + 1) (by omega)
theorem eqIntS_ev (l : List Int) (hl : l.length ≤ 1048576) : Ev (fun k => laws_eqIntS.f k l l) true := by
  unfold laws_eqIntS.f
  simp only [if_true]
  exact eqIntS_l0 l hl l.length 0 (by omega)

/-! laws_eqCost -/
theorem eqCost_ev (a b c : List Int) (ha : a.length ≤ 1048576) (hb : b.length ≤ 1048576) (hc : c.length ≤ 1048576) : Ev (fun k => laws_eqCost.f k a b c a b c) true := by
  unfold laws_eqCost.f
  refine Ev.bind (eqIntS_ev a ha) ?_
  simp only [if_true]
  refine Ev.bind (eqIntS_ev b hb) ?_
  simp only [if_true]
  refine Ev.bind (eqIntS_ev c hc) ?_
  simp only [if_true]
  exact Ev.now _

/-! spec_l1In -/
theorem spec_l1In_eq (a b c : Int) : spec_l1In.f a b c = some (decide (b ≤ a ∧ a ≤ c)) := by
  unfold spec_l1In.f
  by_cases h : b ≤ a
  · rw [if_pos h]; simp [h]
  · rw [if_neg h]; simp [h]

/-! spec_l7In -/
theorem spec_l7In_l0 (l : List Int) (hl : l.length ≤ 1048576) (n : Int) (d : Nat) : ∀ j : Nat, j + d = l.length → (∀ x ∈ l.take j, 0 ≤ x ∧ x ≤ 1000) → Ev (fun k => spec_l7In.l0 k l n j) (pricesT l n) := by
  induction d with
  | zero =>
    intro j hj hall
    refine Ev.step (fun k => by simp only [spec_l7In.l0]; rw [if_neg (by omega)]) ?_
    refine evSome ?_
    rw [List.take_of_length_le (by omega)] at hall
    unfold pricesT
    rw [decide_eq_true hall, Bool.and_true]
    rfl
  | succ d ih =>
    intro j hj hall
    have hjl : j < l.length := by omega
    have c1 : (j : Int) < (l.length : Int) := by omega
    have c2 : (0 : Int) ≤ (j : Int) := by omega
    have e4 : wrap64 ((j : Int) + 1) = ((j + 1 : Nat) : Int) := by rw [w64 (by omega) (by omega)]; rfl
    have er : rd l (j : Int) = l[j] := by unfold rd; simp [List.getD_eq_getElem?_getD, List.getElem?_eq_getElem hjl]
    refine Ev.step (fun k => by simp only [spec_l7In.l0]; rw [if_pos c1, if_pos c2, e4, er]) ?_
    simp only [spec_l1In_eq, Option.bind_some, decide_eq_true_eq]
    by_cases h : 0 ≤ l[j] ∧ l[j] ≤ 1000
    · simp only [if_pos h]
      refine ih (j + 1) (by omega) ?_
      rw [List.take_succ_eq_append_getElem hjl]
      intro x hx
      rcases List.mem_append.1 hx with hx | hx
      · exact hall x hx
      · rw [List.mem_singleton.1 hx]; exact h
    · simp only [if_neg h]
      refine evSome ?_
      unfold pricesT
      rw [decide_eq_false (fun ha : ∀ x ∈ l, 0 ≤ x ∧ x ≤ 1000 => h (ha _ (List.getElem_mem hjl))), Bool.and_false]
theorem spec_l7In_ev (l : List Int) (hl : l.length ≤ 1048576) (n : Int) : Ev (fun k => spec_l7In.f k l n) (pricesT l n) := by
  unfold spec_l7In.f
  exact spec_l7In_l0 l hl n l.length 0 (by omega) (by simp)

/-! spec_CostOk -/
theorem spec_CostOk_l0 (a b r : List Int) (hr : r.length = 36) (d : Nat) : ∀ j : Nat, j + d = 6 → Ev (fun k => spec_CostOk.l0 k j a b r) (diagGo r d j) := by
  induction d with
  | zero =>
    intro j hj
    exact Ev.step (f := fun _ => some true) (fun k => by simp only [spec_CostOk.l0]; rw [if_neg (by omega)]) (Ev.now _)
  | succ d ih =>
    intro j hj
    have c1 : (j : Int) < 6 := by omega
    have c2 : (0 : Int) ≤ (j : Int) * 6 + j := by omega
    have c3 : (j : Int) * 6 + j < (r.length : Int) := by omega
    have e1 : wrap64 (wrap64 ((j : Int) * 6) + j) = (j : Int) * 6 + j := by rw [w64 (n := (j : Int) * 6) (by omega) (by omega), w64 (by omega) (by omega)]
    have e4 : wrap64 ((j : Int) + 1) = ((j + 1 : Nat) : Int) := by rw [w64 (by omega) (by omega)]; rfl
    refine Ev.step (fun k => by simp only [spec_CostOk.l0]; rw [if_pos c1, e1, e4, if_pos c2, if_pos c3]) ?_
    simp only [diagGo]
    by_cases h : rd r ((j : Int) * 6 + j) = 0
    · simp only [if_pos h]; exact ih (j + 1) (by omega)
    · simp only [if_neg h]; exact Ev.now _
theorem spec_CostOk_no (a b r : List Int) : Ev (fun k => spec_CostOk.j0 k true a b r) false := by
  refine Ev.step (fun k => by rw [spec_CostOk.j0]) ?_
  simp only [if_true]; exact Ev.now _
theorem spec_CostOk_ev (a b r : List Int) (ha : a.length ≤ 1048576) (hb : b.length ≤ 1048576) (hr : r.length ≤ 1048576) : Ev (fun k => spec_CostOk.f k a b r) (costT a b r) := by
  unfold spec_CostOk.f costT
  refine Ev.bind (spec_l7In_ev a ha 6) ?_
  by_cases h1 : pricesT a 6 = true
  · rw [h1]
    simp only [if_true]
    refine Ev.bind (spec_l7In_ev b hb 6) ?_
    by_cases h2 : pricesT b 6 = true
    · rw [h2]
      simp only [if_true]
      refine Ev.bind (spec_l7In_ev r hr 36) ?_
      by_cases h3 : pricesT r 36 = true
      · rw [h3]
        refine Ev.step (fun k => by rw [spec_CostOk.j0]) ?_
        simp only [Bool.not_true, Bool.false_eq_true, if_false, if_true]
        have hl := ((pricesT_iff r 36).1 h3).1
        exact spec_CostOk_l0 a b r (by omega) 6 0 rfl
      · rw [Bool.eq_false_iff.mpr h3]
        simp only [Bool.not_false, Bool.false_eq_true, if_false]
        exact spec_CostOk_no a b r
    · rw [Bool.eq_false_iff.mpr h2]
      simp only [Bool.false_eq_true, if_false]
      exact spec_CostOk_no a b r
  · rw [Bool.eq_false_iff.mpr h1]
    simp only [Bool.false_eq_true, if_false]
    exact spec_CostOk_no a b r

/-! spec_Var -/
theorem spec_Var_l0 : ∀ (n : Nat) (acc : List Int), n < 9223372036854775808 → acc.length + (varB n).length ≤ 140737488355328 → Ev (fun k => spec_Var.l0 k n acc) (strOfNums (acc ++ varB n)) := by
  intro n
  induction n using Nat.strongRecOn with
  | _ n ih =>
    intro acc hn hl
    by_cases h : n < 128
    · rw [varB_lt h] at hl ⊢
      simp only [List.length_cons, List.length_nil] at hl
      refine Ev.step (fun k => by simp only [spec_Var.l0]; rw [if_neg (by omega), if_pos (by omega)]) ?_
      refine evSome ?_
      rw [Int.emod_eq_of_lt (by omega) (by omega)]
    · rw [varB_ge h] at hl ⊢
      simp only [List.length_cons] at hl
      refine Ev.step (fun k => by simp only [spec_Var.l0]; rw [if_pos (by omega), if_pos (by omega)]) ?_
      have e1 : wrap64 (Int.tdiv (n : Int) 128) = ((n / 128 : Nat) : Int) := by
        rw [Int.tdiv_eq_ediv_of_nonneg (by omega), w64 (by omega) (by omega)]; rfl
      have e2 : (wrap64 (128 + Int.tmod (n : Int) 128)) % 256 = 128 + (n : Int) % 128 := by
        rw [Int.tmod_eq_emod_of_nonneg (by omega), w64 (by omega) (by omega)]; omega
      rw [e1, e2]
      have := ih (n / 128) (by omega) (acc ++ [128 + (n : Int) % 128]) (by omega) (by simp only [List.length_append, List.length_cons, List.length_nil]; omega)
      simpa only [List.append_assoc, List.cons_append, List.nil_append] using this
theorem spec_Var_ev (n : Int) : Ev (fun k => spec_Var.f k n) (varS n) := by
  unfold spec_Var.f varS
  simp only [spec_l1In_eq, Option.bind_some, decide_eq_true_eq]
  by_cases h : 0 ≤ n ∧ n ≤ 562949953421311
  · rw [if_pos h]
    simp only [if_pos h]
    obtain ⟨m, rfl⟩ := Int.eq_ofNat_of_zero_le h.1
    have hl := varB_len 7 m (by omega)
    have := spec_Var_l0 m [] (by omega) (by simp; omega)
    simpa only [List.nil_append, Int.toNat_natCast] using this
  · rw [if_neg h]
    simp only [if_neg h]
    exact Ev.now _

/-! spec_ReadVar -/
theorem take_all_eq (s : ByteArray) (K i : Nat) (hi : i < K) (hK : K ≤ s.size) : ((bytesOf s).take K).drop i = bt s (i : Int) :: ((bytesOf s).take K).drop (i + 1) := by
  have h := drop_bytes s i (by omega)
  rw [List.drop_take, List.drop_take, h, show K - i = (K - (i + 1)) + 1 by omega, List.take_succ_cons]
theorem spec_ReadVar_l1 (s : ByteArray) (K : Nat) (hK : K ≤ 7) (hs : K ≤ s.size) (r : Int × Int)
    (h : Ev (fun k => spec_ReadVar.l1 k s K (decV ((bytesOf s).take K)) (-1)) r) :
    ∀ i : Nat, i ≤ K → Ev (fun k => spec_ReadVar.l1 k s K (decV (((bytesOf s).take K).drop i)) ((i : Int) - 1)) r := by
  intro i
  induction i with
  | zero => intro _; simpa using h
  | succ i ih =>
    intro hi
    have hb := bt_u8 s (i : Int)
    have hd := decV_nonneg (((bytesOf s).take K).drop (i + 1))
    have hm := decV_max (((bytesOf s).take K).drop (i + 1)) (by simp; omega)
    have hi' := ih (by omega)
    rw [take_all_eq s K i (by omega) hs] at hi'
    simp only [decV] at hi'
    have e0 : ((i + 1 : Nat) : Int) - 1 = (i : Int) := by omega
    have c1 : (i : Int) ≥ 0 := by omega
    have c2 : (0 : Int) ≤ (i : Int) := by omega
    have c3 : (i : Int) < (s.size : Int) := by omega
    generalize decV (((bytesOf s).take K).drop (i + 1)) = q at *
    have e1 : wrap64 (q * 128) = q * 128 := w64 (by omega) (by omega)
    have e2 : Int.tmod (wrap64 (bt s i)) 128 = bt s i % 128 := by rw [w64 (by omega) (by omega), Int.tmod_eq_emod_of_nonneg (by omega)]
    have e3 : wrap64 (q * 128 + bt s i % 128) = bt s i % 128 + 128 * q := by rw [w64 (by omega) (by omega)]; omega
    have e4 : wrap64 ((i : Int) - 1) = (i : Int) - 1 := w64 (by omega) (by omega)
    rw [e0]
    refine Ev.step (fun k => by simp only [spec_ReadVar.l1]; rw [if_pos c1, if_pos c2, if_pos c3, e1, e2, e3, e4]) ?_
    exact hi'
/-- One try: the first K bytes. -/
theorem spec_ReadVar_try (s : ByteArray) (K : Nat) (h1 : 1 ≤ K) (hK : K ≤ 7) (hs : K ≤ s.size) (r : Int × Int)
    (hyes : goodV ((bytesOf s).take K) → (decV ((bytesOf s).take K), (K : Int)) = r)
    (hno : ¬ goodV ((bytesOf s).take K) → Ev (fun k => spec_ReadVar.l0 k s ((K + 1 : Nat) : Int)) r) :
    Ev (fun k => spec_ReadVar.l0 k s K) r := by
  have c1 : (K : Int) ≤ 7 := by omega
  have c2 : (K : Int) ≤ (s.size : Int) := by omega
  have c3 : (0 : Int) ≤ (K : Int) := by omega
  have hnil : ((bytesOf s).take K).drop K = [] := List.drop_of_length_le (by simp; omega)
  have hlen : ((bytesOf s).take K).length ≤ 7 := by simp; omega
  have hd := decV_nonneg ((bytesOf s).take K)
  have hm := decV_max ((bytesOf s).take K) hlen
  have e0 : wrap64 ((K : Int) - 1) = (K : Int) - 1 := w64 (by omega) (by omega)
  have e1 : wrap64 ((K : Int) + 1) = ((K + 1 : Nat) : Int) := by rw [w64 (by omega) (by omega)]; rfl
  refine Ev.step (fun k => by simp only [spec_ReadVar.l0]; rw [if_pos c1, decide_eq_true c2]) ?_
  refine Ev.step (fun k => by rw [spec_ReadVar.j1]) ?_
  simp only [if_true, e0]
  have := spec_ReadVar_l1 s K hK hs r ?_ K (Nat.le_refl _)
  · rw [hnil] at this; exact this
  · refine Ev.step (fun k => by simp only [spec_ReadVar.l1]; rw [if_neg (by decide)]) ?_
    refine Ev.bind (spec_Var_ev _) ?_
    simp only [if_pos c3, if_pos c2, e1, toList_eq_iff, bytesOf_extract, Int.toNat_natCast, List.drop_zero]
    have hv : varS (decV ((bytesOf s).take K)) = strOfNums (varB (decV ((bytesOf s).take K)).toNat) := by
      unfold varS; rw [if_pos ⟨hd, hm⟩]
    rw [hv, bytesOf_strOf (varB_range _)]
    by_cases hg : goodV ((bytesOf s).take K)
    · rw [varB_decV _ hg]
      simp only [if_true]
      exact evSome (hyes hg)
    · have hne : ¬ varB (decV ((bytesOf s).take K)).toNat = (bytesOf s).take K := by
        intro e; apply hg; rw [← e]; exact goodV_varB _
      simp only [if_neg hne]
      exact hno hg
theorem spec_ReadVar_end (s : ByteArray) (K : Nat) (h : 7 < K ∨ s.size < K) : Ev (fun k => spec_ReadVar.l0 k s K) (0, 0) := by
  by_cases c : (K : Int) ≤ 7
  · refine Ev.step (fun k => by simp only [spec_ReadVar.l0]; rw [if_pos c, decide_eq_false (by omega)]) ?_
    refine Ev.step (fun k => by rw [spec_ReadVar.j1]) ?_
    simp only [Bool.false_eq_true, if_false]; exact Ev.now _
  · refine Ev.step (fun k => by simp only [spec_ReadVar.l0]; rw [if_neg c]) ?_
    refine Ev.step (fun k => by rw [spec_ReadVar.j1]) ?_
    simp only [Bool.false_eq_true, if_false]; exact Ev.now _
/-- Behind a byte below 128 nothing fits. -/
theorem spec_ReadVar_low (s : ByteArray) (t : Nat) (ht : bt s (t : Int) < 128) (d : Nat) : ∀ K : Nat, t + 1 < K → K + d = min s.size 7 + 1 → Ev (fun k => spec_ReadVar.l0 k s K) (0, 0) := by
  induction d with
  | zero => intro K h1 h2; exact spec_ReadVar_end s K (by omega)
  | succ d ih =>
    intro K h1 h2
    have hng : ¬ goodV ((bytesOf s).take K) := by
      have e := List.take_append_drop t ((bytesOf s).take K)
      rw [take_all_eq s K t (by omega) (by omega)] at e
      rw [← e]
      refine not_goodV_low _ _ _ ?_ ht
      intro hn
      have := congrArg List.length hn
      simp [bytesOf_len] at this; omega
    exact spec_ReadVar_try s K (by omega) (by omega) (by omega) _ (fun hg => absurd hg hng) (fun _ => ih (K + 1) (by omega) (by omega))
theorem decV_take_succ (s : ByteArray) (i : Nat) (h : i < s.size) : decV ((bytesOf s).take (i + 1)) = decV ((bytesOf s).take i) + bt s i % 128 * 128 ^ i := by
  rw [take_bytes_succ s i h, decV_snoc, List.length_take, bytesOf_len, Nat.min_eq_left (by omega)]
theorem spec_ReadVar_l0 (s : ByteArray) (d : Nat) : ∀ i : Nat, i + d = min s.size 7 → (∀ x ∈ (bytesOf s).take i, 128 ≤ x) → Ev (fun k => spec_ReadVar.l0 k s ((i + 1 : Nat) : Int)) (rvGo s d i (decV ((bytesOf s).take i))) := by
  induction d with
  | zero => intro i hi hx; exact spec_ReadVar_end s (i + 1) (by omega)
  | succ d ih =>
    intro i hi hx
    have hb := bt_u8 s (i : Int)
    have htk := take_bytes_succ s i (by omega)
    have hlen : ((bytesOf s).take i).length = i := by simp [bytesOf_len]; omega
    have hrange : ∀ x ∈ (bytesOf s).take i, 128 ≤ x ∧ x ≤ 255 := fun x hm => ⟨hx x hm, (bytesOf_range s x (List.mem_of_mem_take hm)).2⟩
    simp only [rvGo]
    by_cases hlow : bt s (i : Int) < 128
    · rw [if_pos hlow]
      by_cases hz : 0 < i ∧ bt s (i : Int) = 0
      · rw [if_pos hz]
        refine spec_ReadVar_try s (i + 1) (by omega) (by omega) (by omega) _ (fun hg => ?_) (fun _ => ?_)
        · rw [htk] at hg
          rcases (goodV_last _ _ hg).2 with h | h
          · rw [h] at hlen; simp at hlen; omega
          · exact absurd hz.2 h
        · exact spec_ReadVar_low s i hlow d (i + 1 + 1) (by omega) (by omega)
      · rw [if_neg hz]
        refine spec_ReadVar_try s (i + 1) (by omega) (by omega) (by omega) _ (fun _ => ?_) (fun hg => ?_)
        · rw [decV_take_succ s i (by omega)]; rfl
        · refine absurd ?_ hg
          rw [htk]
          refine goodV_snoc _ hrange _ hb.1 hlow ?_
          by_cases h0 : i = 0
          · left; subst h0; rfl
          · right; omega
    · rw [if_neg hlow]
      refine spec_ReadVar_try s (i + 1) (by omega) (by omega) (by omega) _ (fun hg => ?_) (fun _ => ?_)
      · rw [htk] at hg
        exact absurd (goodV_last _ _ hg).1 hlow
      · rw [← decV_take_succ s i (by omega)]
        refine ih (i + 1) (by omega) ?_
        intro x hm
        rw [htk] at hm
        simp only [List.mem_append, List.mem_singleton] at hm
        rcases hm with hm | rfl
        · exact hx x hm
        · omega
theorem spec_ReadVar_ev (s : ByteArray) : Ev (fun k => spec_ReadVar.f k s) (readVar s) := by
  have := spec_ReadVar_l0 s (min s.size 7) 0 (by omega) (by simp)
  simpa [spec_ReadVar.f, readVar, decV] using this

/-! spec_l4Num -/
/-- The number at a place, and the place behind it; -1 where there is none. -/
def numAt (s : ByteArray) (a : Nat) : Int × Int := if (readVar (s.extract a s.size)).2 = 0 then (0, -1) else ((readVar (s.extract a s.size)).1, (a : Int) + (readVar (s.extract a s.size)).2)
theorem spec_l4Num_ev (s : ByteArray) (hs : s.size ≤ 1048576) (a : Nat) (ha : a ≤ s.size) : Ev (fun k => spec_l4Num.f k s a) (numAt s a) := by
  unfold spec_l4Num.f
  simp only [if_pos (show (0 : Int) ≤ (a : Int) by omega), if_pos (show (a : Int) ≤ (s.size : Int) by omega), Int.toNat_natCast]
  refine Ev.bind (spec_ReadVar_ev (s.extract a s.size)) ?_
  have hr := readVar_range (s.extract a s.size)
  rw [tail_size] at hr
  have e : wrap64 ((a : Int) + (readVar (s.extract a s.size)).2) = (a : Int) + (readVar (s.extract a s.size)).2 := w64 (by omega) (by omega)
  unfold numAt
  by_cases h : (readVar (s.extract a s.size)).2 = 0
  · rw [if_pos h]; simp only [if_pos h]; exact Ev.now _
  · rw [if_neg h]; simp only [if_neg h, e]; exact Ev.now _

/-! spec_GetCost -/
def finC (s : ByteArray) : Option (List Int × Nat) → List Int × List Int × List Int × Bool
  | none => ([], [], [], false)
  | some (l, a) => if a = s.size ∧ costT (l.take 6) ((l.take 12).drop 6) (l.drop 12) = true then (l.take 6, (l.take 12).drop 6, l.drop 12, true) else ([], [], [], false)
theorem getC_fin (s : ByteArray) : getC s = finC s (numsGo s 48 0 []) := by
  unfold getC finC
  cases numsGo s 48 0 [] <;> rfl
theorem w12c : wrap64 (2 * 6) = 12 := by decide +kernel
theorem w48c : wrap64 ((wrap64 (2 * 6)) + (wrap64 (6 * 6))) = 48 := by decide +kernel
theorem cutC_len (l : List Int) (h : l.length = 48) : (l.take 6).length = 6 ∧ ((l.take 12).drop 6).length = 6 ∧ (l.drop 12).length = 36 := by
  simp only [List.length_take, List.length_drop]; omega
theorem numsGo_yes (s : ByteArray) (d a : Nat) (acc : List Int) (c : ¬ (readVar (s.extract a s.size)).2 = 0) : numsGo s (d + 1) a acc = numsGo s d (a + (readVar (s.extract a s.size)).2.toNat) (acc ++ [(readVar (s.extract a s.size)).1]) := by
  simp only [numsGo]; exact if_neg c
theorem numsGo_no (s : ByteArray) (d a : Nat) (acc : List Int) (c : (readVar (s.extract a s.size)).2 = 0) : numsGo s (d + 1) a acc = none := by
  simp only [numsGo]; exact if_pos c
theorem spec_GetCost_end (s : ByteArray) (a : Nat) (l : List Int) (hl : l.length = 48) : Ev (fun k => spec_GetCost.l0 k s l a 6 48) (finC s (some (l, a))) := by
  obtain ⟨l1, l2, l3⟩ := cutC_len l hl
  refine Ev.step (fun k => by rw [spec_GetCost.l0, w48c, w12c]) ?_
  have b1 : (6 : Int) ≤ (l.length : Int) := by omega
  have b2 : (12 : Int) ≤ (l.length : Int) := by omega
  have m1 : (l.take 6).length < 17592186044416 := by omega
  have m2 : ((l.take 12).drop 6).length < 17592186044416 := by omega
  have m3 : (l.drop 12).length < 17592186044416 := by omega
  rw [show (6 : Int).toNat = 6 from rfl, show (12 : Int).toNat = 12 from rfl]
  generalize hA : l.take 6 = A at *
  generalize hB : (l.take 12).drop 6 = B at *
  generalize hC : l.drop 12 = C at *
  simp only [Int.lt_irrefl, if_false, Option.bind_some, List.length_nil, List.nil_append, Nat.zero_add, if_pos b1, if_pos b2, if_pos m1, if_pos m2, if_pos m3, Int.reduceLE, if_true]
  have hf : finC s (some (l, a)) = if a = s.size ∧ costT A B C = true then (A, B, C, true) else ([], [], [], false) := by
    show (if _ then _ else _) = _
    rw [hA, hB, hC]
  rw [hf]
  by_cases h : (a : Int) = (s.size : Int)
  · simp only [if_pos h]
    refine Ev.bind (spec_CostOk_ev A B C (by omega) (by omega) (by omega)) ?_
    by_cases hc : costT A B C = true
    · simp only [if_pos hc, if_pos (show a = s.size ∧ costT A B C = true from ⟨by omega, hc⟩)]; exact Ev.now _
    · simp only [if_neg hc, if_neg (show ¬ (a = s.size ∧ costT A B C = true) from fun q => hc q.2)]; exact Ev.now _
  · rw [if_neg (fun q => h (by rw [q.1]))]; simp only [if_neg h]; exact Ev.now _
theorem spec_GetCost_l0 (s : ByteArray) (hs : s.size ≤ 1048576) (d : Nat) : ∀ (i a : Nat) (acc : List Int), i + d = 48 → a ≤ s.size → acc.length = i → Ev (fun k => spec_GetCost.l0 k s acc a 6 i) (finC s (numsGo s d a acc)) := by
  induction d with
  | zero =>
    intro i a acc hi ha hacc
    obtain rfl : i = 48 := by omega
    exact spec_GetCost_end s a acc hacc
  | succ d ih =>
    intro i a acc hi ha hacc
    have hr := readVar_range (s.extract a s.size)
    rw [tail_size] at hr
    have c1 : (i : Int) < 48 := by omega
    have c4 : acc.length < 17592186044416 := by omega
    have e5 : wrap64 ((i : Int) + 1) = ((i + 1 : Nat) : Int) := by rw [w64 (by omega) (by omega)]; rfl
    refine Ev.step (fun k => by rw [spec_GetCost.l0, w48c, w12c, if_pos c1, e5]) ?_
    refine Ev.bind (spec_l4Num_ev s hs a ha) ?_
    by_cases c : (readVar (s.extract a s.size)).2 = 0
    · have en : numAt s a = (0, -1) := if_pos c
      have c3 : (numAt s a).2 < 0 := by rw [en]; decide
      simp only [if_pos c3]
      rw [numsGo_no s d a acc c]
      exact Ev.now _
    · have en : numAt s a = ((readVar (s.extract a s.size)).1, (a : Int) + (readVar (s.extract a s.size)).2) := if_neg c
      have e6 : (numAt s a).2 = ((a + (readVar (s.extract a s.size)).2.toNat : Nat) : Int) := by rw [en]; show (a : Int) + _ = _; omega
      have e7 : (numAt s a).1 = (readVar (s.extract a s.size)).1 := by rw [en]
      have c3 : ¬ (numAt s a).2 < 0 := by rw [e6]; omega
      simp only [if_neg c3, if_pos c4]
      rw [e6, e7, numsGo_yes s d a acc c]
      exact ih (i + 1) _ _ (by omega) (by omega) (by rw [List.length_append, hacc]; rfl)
theorem spec_GetCost_ev (s : ByteArray) (hs : s.size ≤ 1048576) : Ev (fun k => spec_GetCost.f k s) (getC s) := by
  rw [getC_fin]
  exact spec_GetCost_l0 s hs 48 0 0 [] rfl (by omega) rfl

/-! impl_within -/
theorem impl_within_eq (a b c : Int) : impl_within.f a b c = some (decide (b ≤ a ∧ a ≤ c)) := by
  unfold impl_within.f
  by_cases h : b ≤ a
  · rw [if_pos h]; simp [h]
  · rw [if_neg h]; simp [h]

/-! impl_pricesOk -/
theorem impl_pricesOk_eq (l : List Int) (n : Int) : impl_pricesOk.f l n = some (pricesT l n) := by
  unfold impl_pricesOk.f pricesT
  congr 2
  have h := badGo_all l 0
  by_cases g : ∀ x ∈ l, priceB x = true
  · have g2 : ¬ (0 ≤ badGo l 0) := fun e => (h.1 e) g
    have g3 : ∀ x ∈ l, 0 ≤ x ∧ x ≤ 1000 := fun x hx => by have := g x hx; unfold priceB at this; exact of_decide_eq_true this
    rw [decide_eq_false g2, decide_eq_true g3]; rfl
  · have g2 : 0 ≤ badGo l 0 := h.2 g
    have g3 : ¬ ∀ x ∈ l, 0 ≤ x ∧ x ≤ 1000 := fun e => g (fun x hx => by unfold priceB; exact decide_eq_true (e x hx))
    rw [decide_eq_true g2, decide_eq_false g3]; rfl

/-! impl_CostOk -/
theorem impl_CostOk_l0 (a b r : List Int) (hr : r.length = 36) (d : Nat) : ∀ j : Nat, j + d = 6 → Ev (fun k => impl_CostOk.l0 k j a b r) (diagGo r d j) := by
  induction d with
  | zero =>
    intro j hj
    exact Ev.step (f := fun _ => some true) (fun k => by simp only [impl_CostOk.l0]; rw [if_neg (by omega)]) (Ev.now _)
  | succ d ih =>
    intro j hj
    have c1 : (j : Int) < 6 := by omega
    have c2 : (0 : Int) ≤ (j : Int) * 6 + j := by omega
    have c3 : (j : Int) * 6 + j < (r.length : Int) := by omega
    have e1 : wrap64 (wrap64 ((j : Int) * 6) + j) = (j : Int) * 6 + j := by rw [w64 (n := (j : Int) * 6) (by omega) (by omega), w64 (by omega) (by omega)]
    have e4 : wrap64 ((j : Int) + 1) = ((j + 1 : Nat) : Int) := by rw [w64 (by omega) (by omega)]; rfl
    refine Ev.step (fun k => by simp only [impl_CostOk.l0]; rw [if_pos c1, e1, e4, if_pos c2, if_pos c3]) ?_
    simp only [diagGo]
    by_cases h : rd r ((j : Int) * 6 + j) = 0
    · simp only [if_pos h]; exact ih (j + 1) (by omega)
    · simp only [if_neg h]; exact Ev.now _
theorem impl_CostOk_no (a b r : List Int) : Ev (fun k => impl_CostOk.j0 k true a b r) false := by
  refine Ev.step (fun k => by rw [impl_CostOk.j0]) ?_
  simp only [if_true]; exact Ev.now _
theorem impl_CostOk_ev (a b r : List Int) (ha : a.length ≤ 1048576) (hb : b.length ≤ 1048576) (hr : r.length ≤ 1048576) : Ev (fun k => impl_CostOk.f k a b r) (costT a b r) := by
  unfold impl_CostOk.f costT
  simp only [impl_pricesOk_eq, Option.bind_some]
  by_cases h1 : pricesT a 6 = true
  · rw [h1]
    simp only [if_true]
    skip
    by_cases h2 : pricesT b 6 = true
    · rw [h2]
      simp only [if_true]
      skip
      by_cases h3 : pricesT r 36 = true
      · rw [h3]
        refine Ev.step (fun k => by rw [impl_CostOk.j0]) ?_
        simp only [Bool.not_true, Bool.false_eq_true, if_false, if_true]
        have hl := ((pricesT_iff r 36).1 h3).1
        exact impl_CostOk_l0 a b r (by omega) 6 0 rfl
      · rw [Bool.eq_false_iff.mpr h3]
        simp only [Bool.not_false, Bool.false_eq_true, if_false]
        exact impl_CostOk_no a b r
    · rw [Bool.eq_false_iff.mpr h2]
      simp only [Bool.false_eq_true, if_false]
      exact impl_CostOk_no a b r
  · rw [Bool.eq_false_iff.mpr h1]
    simp only [Bool.false_eq_true, if_false]
    exact impl_CostOk_no a b r

/-! impl_ReadVar -/
theorem p128 (i : Nat) (h : i ≤ 7) : (128 : Int) ^ i ≤ 562949953421312 := by
  have h1 : (128 : Nat) ^ i ≤ 128 ^ 7 := Nat.pow_le_pow_right (by decide) h
  have h2 : ((128 ^ i : Nat) : Int) ≤ ((128 ^ 7 : Nat) : Int) := by omega
  simpa using h2
theorem p128_pos (i : Nat) : (0 : Int) < 128 ^ i := Int.pow_pos (by decide)
theorem or_piece (b n : Int) (i : Nat) (hi : i ≤ 6) (h0 : 0 ≤ b) (h1 : b ≤ 255) (hn : 0 ≤ n) (hn1 : n < 128 ^ i) :
    Go.bits .or .i64 n (shl .i64 (wrap64 (Go.bits .and .u8 b 127)) (wrap64 (7 * (i : Int)))) = n + b % 128 * 128 ^ i ∧ n + b % 128 * 128 ^ i < 128 ^ (i + 1) := by
  have hp := p128 (i + 1) (by omega)
  have hq := p128_pos i
  have e7 : (2 : Int) ^ (7 * i) = 128 ^ i := by rw [Int.pow_mul]; rfl
  have hb : b % 128 * 128 ^ i ≤ 127 * 128 ^ i := Int.mul_le_mul_of_nonneg_right (by omega) (by omega)
  have hb0 : 0 ≤ b % 128 * 128 ^ i := Int.mul_nonneg (by omega) (by omega)
  have hmod : (b % 128 * 128 ^ i) % 2 ^ (7 * i) = 0 := by rw [e7]; exact Int.mul_emod_left _ _
  have hs : (128 : Int) ^ (i + 1) = 128 ^ i * 128 := Int.pow_succ ..
  rw [hs] at hp ⊢
  have e1 : shl .i64 (wrap64 (Go.bits .and .u8 b 127)) (wrap64 (7 * (i : Int))) = b % 128 * 128 ^ i := by
    unfold shl
    rw [and127_u8 h0 (by omega), w64 (n := b % 128) (by omega) (by omega), w64 (n := 7 * (i : Int)) (by omega) (by omega)]
    rw [show min (7 * (i : Int)).toNat IntKind.i64.bits = 7 * i by simp only [IntKind.bits]; omega, e7]
    generalize b % 128 * 128 ^ i = y at *
    exact wraps_i64 _ hb0 (by omega)
  rw [e1]
  refine ⟨or_low (7 * i) hn (by rw [e7]; exact hn1) hb0 ?_ hmod (by omega), ?_⟩
  · generalize b % 128 * 128 ^ i = y at *; omega
  · generalize b % 128 * 128 ^ i = y at *; omega
theorem impl_ReadVar_l0 (s : ByteArray) (m : Nat) (hm : m ≤ 7) (hs : m ≤ s.size) (d : Nat) : ∀ (i : Nat) (n : Int), i + d = m → 0 ≤ n → n < 128 ^ i → Ev (fun k => impl_ReadVar.l0 k s n m i) (rvGo s d i n) := by
  induction d with
  | zero =>
    intro i n hi h0 h1
    exact Ev.step (f := fun _ => some (0, 0)) (fun k => by simp only [impl_ReadVar.l0]; rw [if_neg (by omega)]) (Ev.now _)
  | succ d ih =>
    intro i n hi h0 h1
    have hb := bt_u8 s (i : Int)
    obtain ⟨e1, hlt⟩ := or_piece (bt s i) n i (by omega) hb.1 hb.2 h0 h1
    have hge : 0 ≤ n + bt s i % 128 * 128 ^ i := by
      have := Int.mul_nonneg (show 0 ≤ bt s (i : Int) % 128 by omega) (Int.le_of_lt (p128_pos i))
      omega
    have hp := p128 (i + 1) (by omega)
    have hmax : ¬ (n + bt s i % 128 * 128 ^ i > 562949953421311) := by
      generalize n + bt s i % 128 * 128 ^ i = y at *
      generalize (128 : Int) ^ (i + 1) = z at *
      omega
    have c1 : (i : Int) < (m : Int) := by omega
    have c2 : (0 : Int) ≤ (i : Int) := by omega
    have c3 : (i : Int) < (s.size : Int) := by omega
    have hn := ih (i + 1) (n + bt s i % 128 * 128 ^ i) (by omega) hge hlt
    have c5 : (0 : Int) ≤ wrap64 (7 * (i : Int)) := by rw [w64 (by omega) (by omega)]; omega
    have e4 : wrap64 ((i : Int) + 1) = (i : Int) + 1 := w64 (by omega) (by omega)
    refine Ev.step (fun k => by simp only [impl_ReadVar.l0]; rw [e1, e4, if_pos c1, if_pos c2, if_pos c3, if_pos c5]) ?_
    simp only [rvGo]
    by_cases hlow : bt s (i : Int) < 128
    · simp only [if_pos hlow, if_neg hmax]
      by_cases hpos : (i : Int) > 0
      · simp only [if_pos hpos]
        by_cases hz : bt s (i : Int) = 0
        · simp only [if_pos hz]
          rw [if_pos ⟨Int.natCast_pos.mp hpos, hz⟩]; exact Ev.now _
        · simp only [if_neg hz]
          rw [if_neg (fun h => hz h.2)]; exact Ev.now _
      · simp only [if_neg hpos]
        rw [if_neg (fun h => hpos (Int.natCast_pos.mpr h.1))]; exact Ev.now _
    · simp only [if_neg hlow]
      exact hn
theorem impl_ReadVar_ev (s : ByteArray) (hs : s.size ≤ 140737488351232) : Ev (fun k => impl_ReadVar.f k s) (readVar s) := by
  unfold impl_ReadVar.f readVar
  have e : mn (s.size : Int) 7 = ((min s.size 7 : Nat) : Int) := by
    unfold mn; by_cases h : (7 : Int) < s.size
    · rw [if_pos h]; omega
    · rw [if_neg h]; omega
  rw [e]
  exact impl_ReadVar_l0 s _ (by omega) (by omega) (min s.size 7) 0 0 (by omega) (by omega) (by simp)

/-! impl_GetCost -/
theorem clone_eq (l : List Int) (h : l.length < 17592186044416) : slices_Clone_int_int.f l = some l := if_pos h
theorem toList_none_iff (s : ByteArray) : s.toList = ([] : List UInt8) ↔ s.size = 0 := by
  rw [toList_data]
  constructor
  · intro h; show s.data.size = 0; rw [← Array.length_toList, h]; rfl
  · intro h; exact List.length_eq_zero_iff.1 (by rw [Array.length_toList]; exact h)
theorem impl_GetCost_end (s : ByteArray) (a : Nat) (ha : a ≤ s.size) (l : List Int) (hl : l.length = 48) : Ev (fun k => impl_GetCost.l0 k l (s.extract a s.size) 48) (finC s (some (l, a))) := by
  obtain ⟨l1, l2, l3⟩ := cutC_len l hl
  refine Ev.step (fun k => by rw [impl_GetCost.l0]) ?_
  have b1 : (6 : Int) ≤ (l.length : Int) := by omega
  have b2 : (12 : Int) ≤ (l.length : Int) := by omega
  have m1 := clone_eq (l.take 6) (by omega)
  have m2 := clone_eq ((l.take 12).drop 6) (by omega)
  have m3 := clone_eq (l.drop 12) (by omega)
  have hz : (s.extract a s.size).toList = ([] : List UInt8) ↔ a = s.size := by rw [toList_none_iff, tail_size]; omega
  generalize s.extract a s.size = T at *
  have hf : finC s (some (l, a)) = if a = s.size ∧ costT (l.take 6) ((l.take 12).drop 6) (l.drop 12) = true then (l.take 6, (l.take 12).drop 6, l.drop 12, true) else ([], [], [], false) := rfl
  rw [hf]
  generalize l.take 6 = A at *
  generalize (l.take 12).drop 6 = B at *
  generalize l.drop 12 = C at *
  simp only [Int.lt_irrefl, if_false, m1, m2, m3, Option.bind_some, if_pos b1, if_pos b2, Int.reduceLE, if_true]
  by_cases h : a = s.size
  · simp only [if_pos (hz.2 h)]
    refine Ev.bind (impl_CostOk_ev A B C (by omega) (by omega) (by omega)) ?_
    by_cases hc : costT A B C = true
    · simp only [if_pos hc, if_pos (show a = s.size ∧ costT A B C = true from ⟨h, hc⟩)]; exact Ev.now _
    · simp only [if_neg hc, if_neg (show ¬ (a = s.size ∧ costT A B C = true) from fun q => hc q.2)]; exact Ev.now _
  · rw [if_neg (fun q => h q.1)]; simp only [if_neg (fun q => h (hz.1 q))]; exact Ev.now _
theorem impl_GetCost_l0 (s : ByteArray) (hs : s.size ≤ 1048576) (d : Nat) : ∀ (i a : Nat) (acc : List Int), i + d = 48 → a ≤ s.size → acc.length = i → Ev (fun k => impl_GetCost.l0 k acc (s.extract a s.size) i) (finC s (numsGo s d a acc)) := by
  induction d with
  | zero =>
    intro i a acc hi ha hacc
    obtain rfl : i = 48 := by omega
    exact impl_GetCost_end s a ha acc hacc
  | succ d ih =>
    intro i a acc hi ha hacc
    have hr := readVar_range (s.extract a s.size)
    have hts : (s.extract a s.size).size ≤ 140737488351232 := by rw [tail_size]; omega
    have c1 : (i : Int) < 48 := by omega
    have c4 : acc.length < 17592186044416 := by omega
    have e5 : wrap64 ((i : Int) + 1) = ((i + 1 : Nat) : Int) := by rw [w64 (by omega) (by omega)]; rfl
    refine Ev.step (fun k => by rw [impl_GetCost.l0, if_pos c1, e5]) ?_
    refine Ev.bind (impl_ReadVar_ev _ hts) ?_
    by_cases c : (readVar (s.extract a s.size)).2 = 0
    · simp only [if_pos c]
      rw [numsGo_no s d a acc c]
      exact Ev.now _
    · simp only [if_neg c, if_pos c4, if_pos hr.2.1, if_pos hr.2.2]
      rw [tail_tail s a _ ha, numsGo_yes s d a acc c]
      rw [tail_size] at hr
      exact ih (i + 1) _ _ (by omega) (by omega) (by rw [List.length_append, hacc]; rfl)
theorem impl_GetCost_ev (s : ByteArray) (hs : s.size ≤ 1048576) : Ev (fun k => impl_GetCost.f k s) (getC s) := by
  rw [getC_fin]
  have h := impl_GetCost_l0 s hs 48 0 0 [] rfl (by omega) rfl
  rw [tail_all] at h
  exact h

/-! laws_markIntS -/
def markedI : Int → List Int → List Int
  | _, [] => []
  | x, _ :: l => x :: markedI (x + 1) l
theorem markedI_len : ∀ (l : List Int) (x : Int), (markedI x l).length = l.length
  | [], _ => rfl
  | _ :: l, x => by simp [markedI, markedI_len l]
theorem markI_l0 : ∀ (rest pre : List Int) (x : Int), pre.length + rest.length ≤ 1048576 → 0 ≤ x → x ≤ 4194304 + (pre.length : Int) → Ev (fun k => laws_markIntS.l0 k (pre ++ rest) x pre.length) (x + rest.length, pre ++ markedI x rest)
  | [], pre, x, hl, h0, h1 => by
    refine Ev.step (fun k => by simp only [laws_markIntS.l0]; rw [if_neg (by simp)]) ?_
    exact evSome (by simp [markedI])
  | a :: rest, pre, x, hl, h0, h1 => by
    simp only [List.length_cons] at hl
    have c1 : (pre.length : Int) < ((pre ++ a :: rest).length : Int) := by simp; omega
    have c2 : (0 : Int) ≤ (pre.length : Int) := by omega
    have e4 : wrap64 ((pre.length : Int) + 1) = ((pre.length + 1 : Nat) : Int) := by rw [w64 (by omega) (by omega)]; rfl
    have e5 : wrap64 (x + 1) = x + 1 := w64 (by omega) (by omega)
    have hs : (pre ++ a :: rest).set pre.length x = pre ++ x :: rest := by rw [List.set_append_right _ _ (Nat.le_refl _)]; simp
    refine Ev.step (fun k => by simp only [laws_markIntS.l0]; rw [if_pos c1, if_pos c2, e4, e5, Int.toNat_natCast, hs]) ?_
    have ih := markI_l0 rest (pre ++ [x]) (x + 1) (by simp; omega) (by omega) (by simp; omega)
    simp only [List.length_append, List.length_cons, List.length_nil, List.append_assoc, List.cons_append, List.nil_append] at ih
    simp only [markedI, List.length_cons]
    rw [show x + ((rest.length + 1 : Nat) : Int) = x + 1 + (rest.length : Int) by omega]
    exact ih
theorem markI_ev (l : List Int) (hl : l.length ≤ 1048576) : Ev (fun k => laws_markIntS.f k l 1) (1 + l.length, markedI 1 l) := by
  have := markI_l0 l [] 1 (by simpa using hl) (by omega) (by simp)
  simpa [laws_markIntS.f] using this

/-! laws_markCost -/
theorem markI_from (l : List Int) (hl : l.length ≤ 1048576) (x : Int) (h0 : 0 ≤ x) (h1 : x ≤ 4194304) : Ev (fun k => laws_markIntS.f k l x) (x + l.length, markedI x l) := by
  have := markI_l0 l [] x (by simpa using hl) h0 (by simpa using h1)
  simpa [laws_markIntS.f] using this
theorem markC_ev (a b r : List Int) (ha : a.length ≤ 1000) (hb : b.length ≤ 1000) (hr : r.length ≤ 1000) : Ev (fun k => laws_markCost.f k a b r 1) (1 + (a.length : Int) + b.length + r.length, markedI 1 a, markedI (1 + a.length) b, markedI (1 + (a.length : Int) + b.length) r) := by
  unfold laws_markCost.f
  refine Ev.bind (markI_from a (by omega) 1 (by omega) (by omega)) (Ev.bind (markI_from b (by omega) _ ?_ ?_) (Ev.bind (markI_from r (by omega) _ ?_ ?_) (Ev.now _)))
  all_goals (dsimp only; omega)

/-! laws_heldIntS -/
theorem heldI_l0 : ∀ (rest pre : List Int) (x : Int), pre.length + rest.length ≤ 1048576 → 0 ≤ x → x ≤ 4194304 + (pre.length : Int) → Ev (fun k => laws_heldIntS.l0 k (pre ++ markedI x rest) x pre.length) (x + rest.length)
  | [], pre, x, hl, h0, h1 => by
    refine Ev.step (fun k => by simp only [laws_heldIntS.l0]; rw [if_neg (by simp [markedI])]) ?_
    exact evSome (by simp)
  | a :: rest, pre, x, hl, h0, h1 => by
    simp only [List.length_cons] at hl
    have c1 : (pre.length : Int) < ((pre ++ markedI x (a :: rest)).length : Int) := by simp [markedI]; omega
    have c2 : (0 : Int) ≤ (pre.length : Int) := by omega
    have e4 : wrap64 ((pre.length : Int) + 1) = ((pre.length + 1 : Nat) : Int) := by rw [w64 (by omega) (by omega)]; rfl
    have e5 : wrap64 (x + 1) = x + 1 := w64 (by omega) (by omega)
    have hr : rd (pre ++ markedI x (a :: rest)) (pre.length : Int) = x := by unfold rd; simp [List.getD_eq_getElem?_getD, markedI]
    refine Ev.step (fun k => by simp only [laws_heldIntS.l0]; rw [if_pos c1, if_pos c2, hr, e5, e4]) ?_
    simp only [if_true]
    have ih := heldI_l0 rest (pre ++ [x]) (x + 1) (by simp; omega) (by omega) (by simp; omega)
    simp only [List.length_append, List.length_cons, List.length_nil, List.append_assoc, List.cons_append, List.nil_append] at ih
    simp only [markedI, List.length_cons]
    rw [show x + ((rest.length + 1 : Nat) : Int) = x + 1 + (rest.length : Int) by omega]
    exact ih
theorem heldI_ev (l : List Int) (hl : l.length ≤ 1048576) : Ev (fun k => laws_heldIntS.f k (markedI 1 l) 1) (1 + l.length) := by
  have := heldI_l0 l [] 1 (by simpa using hl) (by omega) (by simp)
  simpa [laws_heldIntS.f] using this

/-! laws_heldCost -/
theorem heldI_from (l : List Int) (hl : l.length ≤ 1048576) (x : Int) (h0 : 0 ≤ x) (h1 : x ≤ 4194304) : Ev (fun k => laws_heldIntS.f k (markedI x l) x) (x + l.length) := by
  have := heldI_l0 l [] x (by simpa using hl) h0 (by simpa using h1)
  simpa [laws_heldIntS.f] using this
theorem heldC_ev (a b r : List Int) (ha : a.length ≤ 1000) (hb : b.length ≤ 1000) (hr : r.length ≤ 1000) : Ev (fun k => laws_heldCost.f k (markedI 1 a) (markedI (1 + a.length) b) (markedI (1 + (a.length : Int) + b.length) r) 1) (1 + (a.length : Int) + b.length + r.length) := by
  unfold laws_heldCost.f
  refine Ev.bind (heldI_from a (by omega) 1 (by omega) (by omega)) ?_
  simp only [if_neg (show ¬ (1 + (a.length : Int) < 0) by omega)]
  refine Ev.bind (heldI_from b (by omega) _ (by omega) (by omega)) ?_
  simp only [if_neg (show ¬ (1 + (a.length : Int) + b.length < 0) by omega)]
  refine Ev.bind (heldI_from r (by omega) _ (by omega) (by omega)) ?_
  simp only [if_neg (show ¬ (1 + (a.length : Int) + b.length + r.length < 0) by omega)]
  exact Ev.now _

theorem getC_small (s : ByteArray) : (getC s).1.length ≤ 36 ∧ (getC s).2.1.length ≤ 36 ∧ (getC s).2.2.1.length ≤ 36 := by
  rw [getC_fin]
  cases h : numsGo s 48 0 [] with
  | none => exact ⟨Nat.zero_le _, Nat.zero_le _, Nat.zero_le _⟩
  | some v =>
    obtain ⟨l, a⟩ := v
    have hl := (numsGo_len s 48 0 [] l a (Nat.zero_le _) h).1
    have hc := cutC_len l (by rw [hl]; rfl)
    show (if _ then _ else _ : List Int × List Int × List Int × Bool).1.length ≤ 36 ∧ (if _ then _ else _ : List Int × List Int × List Int × Bool).2.1.length ≤ 36 ∧ (if _ then _ else _ : List Int × List Int × List Int × Bool).2.2.1.length ≤ 36
    split
    · dsimp only; omega
    · exact ⟨Nat.zero_le _, Nat.zero_le _, Nat.zero_le _⟩
theorem law_j (s : ByteArray) (a b r : List Int) (c : Bool) (ha : a.length ≤ 36) (hb : b.length ≤ 36) (hr : r.length ≤ 36) (hi : Ev (fun k => impl_GetCost.f k s) (a, b, r, c)) :
    Ev (fun k => laws_FnExactGetCost.j0 k s c false a b r a b r) true := by
  refine Ev.step (fun k => by rw [laws_FnExactGetCost.j0]) ?_
  simp only [Bool.false_eq_true, if_false]
  have c1 : ¬ (1 + (a.length : Int) + b.length + r.length < 0) := by omega
  refine Ev.bind (markC_ev a b r (by omega) (by omega) (by omega)) (Ev.bind (heldC_ev a b r (by omega) (by omega) (by omega)) ?_)
  simp only [if_neg c1, if_true]
  refine Ev.bind hi (Ev.bind (eqCost_ev a b r (by omega) (by omega) (by omega)) ?_)
  simp only [if_true, bne_self_eq_false]
  refine Ev.step (fun k => by rw [laws_FnExactGetCost.j1]) ?_
  simp only [Bool.false_eq_true, if_false]
  refine Ev.bind (heldC_ev a b r (by omega) (by omega) (by omega)) ?_
  simp only [if_neg c1, if_true]
  exact Ev.now _
theorem law : laws_FnExactGetCost.Pure := by
  intro a0 _
  refine Ev.rounds ?_
  unfold laws_FnExactGetCost.f
  by_cases h : (a0.size : Int) > 1048576
  · simp only [if_pos h]; exact Ev.now _
  · simp only [if_neg h]
    have hs := spec_GetCost_ev a0 (by omega)
    have hi := impl_GetCost_ev a0 (by omega)
    have hr := getC_small a0
    generalize getC a0 = T at hs hi hr
    obtain ⟨a, b, r, c⟩ := T
    refine Ev.bind hs (Ev.bind hi (Ev.bind (eqCost_ev a b r (by have := hr.1; dsimp only at this; omega) (by have := hr.2.1; dsimp only at this; omega) (by have := hr.2.2; dsimp only at this; omega)) ?_))
    simp only [if_true, bne_self_eq_false]
    exact law_j a0 a b r c hr.1 hr.2.1 hr.2.2 hi

end Go.Proofs.Ytbdjconojnjgdaa.PureFnExactGetCost
namespace Go.Proofs.Ytbdjconojnjgdaa.Pure
open Go.RowKit Go.Proofs.Ytbdjconojnjgdaa.HFnExactGetCost
theorem FnExactGetCost : laws_FnExactGetCost.Pure := Go.Proofs.Ytbdjconojnjgdaa.PureFnExactGetCost.law
end Go.Proofs.Ytbdjconojnjgdaa.Pure
