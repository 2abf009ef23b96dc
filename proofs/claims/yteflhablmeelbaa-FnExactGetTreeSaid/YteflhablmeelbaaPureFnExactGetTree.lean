/- For every text, the program's GetTree and the reference's GetTree give the same list and the same code, in memory of its own. Condition: none but the model's own bound on a text's size. -/
import Derived.Test.YteflhablmeelbaaHFnExactGetTreex4
import Derived.Test.YteflhablmeelbaaM
import Derived.Test.YteflhablmeelbaaT
namespace Go.Proofs.Yteflhablmeelbaa.PureFnExactGetTree
open Go.RowKit Go.Proofs.Yteflhablmeelbaa.HFnExactGetTree Go.Proofs.YteflhablmeelbaaW.PrintWords Go.Proofs.YteflhablmeelbaaW.PrintLast Go.Proofs.YteflhablmeelbaaW.PrintMore Go.Proofs.Yteflhablmeelbaa.M Go.Proofs.Yteflhablmeelbaa.T
set_option linter.unusedVariables false
set_option linter.unusedSimpArgs false

abbrev lab (l : List S64) (i : Nat) : Int := (l.getD i z64).f0
abbrev dep (l : List S64) (i : Nat) : Int := (l.getD i z64).f1
theorem rdN (l : List S64) (i : Nat) : rd_T64 l (i : Int) = l.getD i z64 := by unfold rd_T64; simp
def subGo (l : List S64) (v : Int) : Nat → Nat → List S64
  | 0, _ => []
  | d + 1, j => ⟨lab l j, dep l j - v⟩ :: subGo l v d (j + 1)
theorem subGo_len (l : List S64) (v : Int) (d : Nat) : ∀ j, (subGo l v d j).length = d := by
  induction d with
  | zero => intro j; rfl
  | succ d ih => intro j; simp [subGo, ih]
def subT (l : List S64) (a : Int) : List S64 := if atB (lab l) (dep l) l.length a = true then subGo l (dep l a.toNat) (endI (dep l) l.length a.toNat - a.toNat) a.toNat else []
theorem subT_small (l : List S64) (a : Int) (hl : l.length ≤ 1048576) : (subT l a).length ≤ 1048576 := by
  unfold subT
  by_cases h : atB (lab l) (dep l) l.length a = true
  · obtain ⟨i, rfl, hi, _⟩ := atB_nat h
    rw [if_pos h, subGo_len]
    have := endI_le (dep l) l.length i hi
    simp only [Int.toNat_natCast]; omega
  · rw [if_neg h]; simp
/-- Which child of its parent a node is. -/
def rankT (l : List S64) (a : Int) : Int := if atB (lab l) (dep l) l.length a = true ∧ 0 ≤ parI (dep l) a.toNat then idxGo a (kidsI (dep l) l.length (parI (dep l) a.toNat).toNat) 0 else -1
theorem rankT_yes (l : List S64) (a : Int) (h : atB (lab l) (dep l) l.length a = true) (h0 : 0 ≤ parI (dep l) a.toNat) : rankT l a = idxGo a (kidsI (dep l) l.length (parI (dep l) a.toNat).toNat) 0 := by unfold rankT; rw [if_pos ⟨h, h0⟩]
theorem rankT_no (l : List S64) (a : Int) (h : ¬ (atB (lab l) (dep l) l.length a = true ∧ 0 ≤ parI (dep l) a.toNat)) : rankT l a = -1 := by unfold rankT; rw [if_neg h]
theorem par_at (l : List S64) (a : Int) (h : atB (lab l) (dep l) l.length a = true) (h0 : 0 ≤ parI (dep l) a.toNat) : atB (lab l) (dep l) l.length (parI (dep l) a.toNat) = true := by
  obtain ⟨i, rfl, hi, ht⟩ := atB_nat h
  have := parGo_range (dep l) (dep l i) i
  simp only [Int.toNat_natCast, parI] at h0 ⊢
  exact atB_iff.2 ⟨ht, h0, by omega⟩
theorem kids_small (l : List S64) (i : Nat) (hi : i < l.length) (hl : l.length ≤ 1048576) : (kidsI (dep l) l.length i).length ≤ 1048576 := by
  have := kidGo_len (dep l) (dep l i + 1) (endI (dep l) l.length i - (i + 1)) (i + 1)
  have := endI_le (dep l) l.length i hi
  unfold kidsI; omega
theorem kidsT_small (l : List S64) (a : Int) (hl : l.length ≤ 1048576) : (if atB (lab l) (dep l) l.length a = true then kidsI (dep l) l.length a.toNat else []).length ≤ 1048576 := by
  by_cases h : atB (lab l) (dep l) l.length a = true
  · obtain ⟨i, rfl, hi, _⟩ := atB_nat h
    rw [if_pos h]
    have := kidGo_len (dep l) (dep l i + 1) (endI (dep l) l.length i - (i + 1)) (i + 1)
    have := endI_le (dep l) l.length i hi
    simp only [Int.toNat_natCast]
    unfold kidsI; omega
  · rw [if_neg h]; simp
/-- Is node b under node a? -/
def underT (l : List S64) (a b : Int) : Bool := atB (lab l) (dep l) l.length a && (atB (lab l) (dep l) l.length b && decide (a < b ∧ b < ((endI (dep l) l.length a.toNat : Nat) : Int)))
/-- Does node b follow node a, and isn't under it? -/
def leftT (l : List S64) (a b : Int) : Bool := atB (lab l) (dep l) l.length a && (atB (lab l) (dep l) l.length b && decide (b ≥ ((endI (dep l) l.length a.toNat : Nat) : Int)))
def heightT (l : List S64) : Int := if treeB (lab l) (dep l) l.length = true then highGo (dep l) l.length 0 0 else 0
def leavesT (l : List S64) : Int := if treeB (lab l) (dep l) l.length = true then leafGo (dep l) l.length l.length 0 0 else 0
def sameGo (a b : List S64) : Nat → Nat → Bool
  | 0, _ => true
  | d + 1, j => if (!((a.getD j z64).f0 == (b.getD j z64).f0) || (!((a.getD j z64).f1 == (b.getD j z64).f1))) = true then false else sameGo a b d (j + 1)
def sameT (a b : List S64) : Bool := if a.length = b.length then sameGo a b a.length 0 else false
def putGo (l : List S64) : Nat → Nat → ByteArray → ByteArray
  | 0, _, s => s
  | d + 1, j, s => putGo l d (j + 1) (s ++ (varS (lab l j) ++ varS (dep l j)))
def putT (l : List S64) : ByteArray := if treeB (lab l) (dep l) l.length = true then putGo l l.length 0 (varS l.length) else ⟨#[]⟩
/-- A node of depth q can stand behind these. -/
def shapeP (acc : List S64) (i : Nat) (q : Int) : Prop := (i = 0 → q = 0) ∧ (0 < i → 1 ≤ q ∧ q ≤ dep acc (i - 1) + 1)
instance (acc : List S64) (i : Nat) (q : Int) : Decidable (shapeP acc i q) := by unfold shapeP; infer_instance
/-- The nodes at place a on, d of them still to come, i of them behind. -/
def getGo (s : ByteArray) : Nat → Nat → Nat → List S64 → List S64 × Int
  | 0, _, a, acc => if a = s.size then (acc, 0) else ([], 6)
  | d + 1, i, a, acc =>
    let r := readVar (s.extract a s.size)
    if r.2 = 0 then ([], 1)
    else if ¬ (0 ≤ r.1 ∧ r.1 ≤ 5) then ([], 3)
    else
      let q := readVar (s.extract (a + r.2.toNat) s.size)
      if q.2 = 0 then ([], 1)
      else if q.1 > 12 then ([], 4)
      else if ¬ shapeP acc i q.1 then ([], 5)
      else getGo s d (i + 1) (a + r.2.toNat + q.2.toNat) (acc ++ [⟨r.1, q.1⟩])
def getT (s : ByteArray) : List S64 × Int :=
  let r := readVar s
  if r.2 = 0 then ([], 1) else if ¬ (1 ≤ r.1 ∧ r.1 ≤ 24) then ([], 2) else getGo s r.1.toNat 0 r.2.toNat []
theorem getGo_len (s : ByteArray) (d : Nat) : ∀ (i a : Nat) (acc : List S64), (getGo s d i a acc).1.length ≤ acc.length + d := by
  induction d with
  | zero => intro i a acc; simp only [getGo]; split <;> simp
  | succ d ih =>
    intro i a acc
    simp only [getGo]
    split
    · simp
    split
    · simp
    split
    · simp
    split
    · simp
    split
    · simp
    have := ih (i + 1) (a + (readVar (s.extract a s.size)).2.toNat + (readVar (s.extract (a + (readVar (s.extract a s.size)).2.toNat) s.size)).2.toNat) (acc ++ [⟨(readVar (s.extract a s.size)).1, (readVar (s.extract (a + (readVar (s.extract a s.size)).2.toNat) s.size)).1⟩])
    simp at this ⊢
    omega
theorem getT_small (s : ByteArray) : (getT s).1.length ≤ 1048576 := by
  unfold getT
  simp only
  split
  · simp
  split
  · simp
  rename_i h
  have := getGo_len s (readVar s).1.toNat 0 (readVar s).2.toNat []
  simp at this
  omega

/-! laws_eqNodeS -/
theorem eqNodeS_l0 (l : List S64) (hl : l.length ≤ 1048576) (d : Nat) : ∀ i : Nat, i + d = l.length → Ev (fun k => laws_eqNodeS.l0 k l l i) true := by
  induction d with
  | zero => intro i hi; exact Ev.step (fun k => by simp only [laws_eqNodeS.l0]; rw [if_neg (by omega)]) (Ev.now _)
  | succ d ih =>
    intro i hi
    have e4 : wrap64 ((i : Int) + 1) = ((i + 1 : Nat) : Int) := by rw [w64 (by omega) (by omega)]; rfl
    refine Ev.step (fun k => by simp only [laws_eqNodeS.l0]; rw [if_pos (by omega), if_pos (by omega), if_pos (by omega)]) ?_
    simp only [laws_eqNode.f, if_true, Option.bind_some, e4]
    exact ih (i + 1) (by omega)
theorem eqNodeS_ev (l : List S64) (hl : l.length ≤ 1048576) : Ev (fun k => laws_eqNodeS.f k l l) true := by
  unfold laws_eqNodeS.f
  simp only [if_true]
  exact eqNodeS_l0 l hl l.length 0 (by omega)

/-! laws_markNodeS -/
def markedN : Int → List S64 → List S64
  | _, [] => []
  | x, _ :: l => ⟨x, x + 1⟩ :: markedN (x + 2) l
theorem markedN_len : ∀ (l : List S64) (x : Int), (markedN x l).length = l.length
  | [], _ => rfl
  | _ :: l, x => by simp [markedN, markedN_len l]
theorem markN_l0 : ∀ (rest pre : List S64) (x : Int), pre.length + rest.length ≤ 1048576 → 0 ≤ x → x ≤ 4194304 + 2 * (pre.length : Int) → Ev (fun k => laws_markNodeS.l0 k (pre ++ rest) x pre.length) (x + 2 * rest.length, pre ++ markedN x rest)
  | [], pre, x, hl, h0, h1 => by
    refine Ev.step (fun k => by simp only [laws_markNodeS.l0]; rw [if_neg (by simp)]) ?_
    exact evSome (by simp [markedN])
  | a :: rest, pre, x, hl, h0, h1 => by
    simp only [List.length_cons] at hl
    have c1 : (pre.length : Int) < ((pre ++ a :: rest).length : Int) := by simp; omega
    have c2 : (0 : Int) ≤ (pre.length : Int) := by omega
    have e4 : wrap64 ((pre.length : Int) + 1) = ((pre.length + 1 : Nat) : Int) := by rw [w64 (by omega) (by omega)]; rfl
    have e5 : wrap64 (x + 1) = x + 1 := w64 (by omega) (by omega)
    have e6 : wrap64 (x + 1 + 1) = x + 2 := by rw [w64 (by omega) (by omega)]; omega
    have hs : ∀ (v w : S64), (pre ++ v :: rest).set pre.length w = pre ++ w :: rest := fun v w => by rw [List.set_append_right _ _ (Nat.le_refl _)]; simp
    have hr : ∀ v : S64, rd_T64 (pre ++ v :: rest) (pre.length : Int) = v := fun v => by rw [rdN]; simp [List.getD_eq_getElem?_getD]
    refine Ev.step (fun k => by simp only [laws_markNodeS.l0]; rw [if_pos c1, if_pos c2]) ?_
    simp only [Option.bind_some, Int.toNat_natCast, hs, hr, e4, e5, e6]
    have ih := markN_l0 rest (pre ++ [⟨x, x + 1⟩]) (x + 2) (by simp; omega) (by omega) (by simp; omega)
    simp only [List.length_append, List.length_cons, List.length_nil, List.append_assoc, List.cons_append, List.nil_append] at ih
    simp only [markedN, List.length_cons]
    rw [show x + 2 * ((rest.length + 1 : Nat) : Int) = x + 2 + 2 * (rest.length : Int) by omega]
    exact ih
theorem markN_ev (l : List S64) (hl : l.length ≤ 1048576) : Ev (fun k => laws_markNodeS.f k l 1) (1 + 2 * l.length, markedN 1 l) := by
  have := markN_l0 l [] 1 (by simpa using hl) (by omega) (by simp)
  simpa [laws_markNodeS.f] using this

/-! laws_heldNodeS -/
theorem heldN_l0 : ∀ (rest pre : List S64) (x : Int), pre.length + rest.length ≤ 1048576 → 0 ≤ x → x ≤ 4194304 + 2 * (pre.length : Int) → Ev (fun k => laws_heldNodeS.l0 k (pre ++ markedN x rest) x pre.length) (x + 2 * rest.length)
  | [], pre, x, hl, h0, h1 => by
    refine Ev.step (fun k => by simp only [laws_heldNodeS.l0]; rw [if_neg (by simp [markedN])]) ?_
    exact evSome (by simp)
  | a :: rest, pre, x, hl, h0, h1 => by
    simp only [List.length_cons] at hl
    have c1 : (pre.length : Int) < ((pre ++ markedN x (a :: rest)).length : Int) := by simp [markedN]; omega
    have c2 : (0 : Int) ≤ (pre.length : Int) := by omega
    have e4 : wrap64 ((pre.length : Int) + 1) = ((pre.length + 1 : Nat) : Int) := by rw [w64 (by omega) (by omega)]; rfl
    have e5 : wrap64 (x + 1) = x + 1 := w64 (by omega) (by omega)
    have e6 : wrap64 (x + 1 + 1) = x + 2 := by rw [w64 (by omega) (by omega)]; omega
    have hr : rd_T64 (pre ++ markedN x (a :: rest)) (pre.length : Int) = ⟨x, x + 1⟩ := by rw [rdN]; simp [List.getD_eq_getElem?_getD, markedN]
    refine Ev.step (fun k => by simp only [laws_heldNodeS.l0]; rw [if_pos c1, if_pos c2, hr, e5, e6, e4]) ?_
    simp only [if_true]
    have ih := heldN_l0 rest (pre ++ [⟨x, x + 1⟩]) (x + 2) (by simp; omega) (by omega) (by simp; omega)
    simp only [List.length_append, List.length_cons, List.length_nil, List.append_assoc, List.cons_append, List.nil_append] at ih
    simp only [markedN, List.length_cons]
    rw [show x + 2 * ((rest.length + 1 : Nat) : Int) = x + 2 + 2 * (rest.length : Int) by omega]
    exact ih
theorem heldN_ev (l : List S64) (hl : l.length ≤ 1048576) : Ev (fun k => laws_heldNodeS.f k (markedN 1 l) 1) (1 + 2 * l.length) := by
  have := heldN_l0 l [] 1 (by simpa using hl) (by omega) (by simp)
  simpa [laws_heldNodeS.f] using this

/-! spec_l1In -/
theorem spec_l1In_eq (a b c : Int) : spec_l1In.f a b c = some (decide (b ≤ a ∧ a ≤ c)) := by
  unfold spec_l1In.f
  by_cases h : b ≤ a
  · rw [if_pos h]; simp [h]
  · rw [if_neg h]; simp [h]

/-! spec_LabelOk -/
theorem spec_LabelOk_eq (a : Int) : spec_LabelOk.f a = some (decide (0 ≤ a ∧ a ≤ 5)) := by
  unfold spec_LabelOk.f; simp only [spec_l1In_eq, Option.bind_some]

/-! spec_Var -/
theorem spec_Var_l0 : ∀ (n : Nat) (acc : List Int), n < 9223372036854775808 → acc.length + (varB n).length ≤ 140737488355328 → Ev (fun k => spec_Var.l0 k n acc) (strOfNums (acc ++ varB n)) := by
  intro n
  induction n using Nat.strongRecOn with
  | _ n ih =>
    intro acc hn hl
    by_cases h : n < 128
    · rw [varB_lt h] at hl ⊢
      simp only [List.length_cons, List.length_nil] at hl
      refine Ev.step (fun k => by simp only [spec_Var.l0]; rw [if_neg (by omega), if_pos (by omega)]) ?_
      refine evSome ?_
      rw [Int.emod_eq_of_lt (by omega) (by omega)]
    · rw [varB_ge h] at hl ⊢
      simp only [List.length_cons] at hl
      refine Ev.step (fun k => by simp only [spec_Var.l0]; rw [if_pos (by omega), if_pos (by omega)]) ?_
      have e1 : wrap64 (Int.tdiv (n : Int) 128) = ((n / 128 : Nat) : Int) := by
        rw [Int.tdiv_eq_ediv_of_nonneg (by omega), w64 (by omega) (by omega)]; rfl
      have e2 : (wrap64 (128 + Int.tmod (n : Int) 128)) % 256 = 128 + (n : Int) % 128 := by
        rw [Int.tmod_eq_emod_of_nonneg (by omega), w64 (by omega) (by omega)]; omega
      rw [e1, e2]
      have := ih (n / 128) (by omega) (acc ++ [128 + (n : Int) % 128]) (by omega) (by simp only [List.length_append, List.length_cons, List.length_nil]; omega)
      simpa only [List.append_assoc, List.cons_append, List.nil_append] using this
theorem spec_Var_ev (n : Int) : Ev (fun k => spec_Var.f k n) (varS n) := by
  unfold spec_Var.f varS
  simp only [spec_l1In_eq, Option.bind_some, decide_eq_true_eq]
  by_cases h : 0 ≤ n ∧ n ≤ 562949953421311
  · rw [if_pos h]
    simp only [if_pos h]
    obtain ⟨m, rfl⟩ := Int.eq_ofNat_of_zero_le h.1
    have hl := varB_len 7 m (by omega)
    have := spec_Var_l0 m [] (by omega) (by simp; omega)
    simpa only [List.nil_append, Int.toNat_natCast] using this
  · rw [if_neg h]
    simp only [if_neg h]
    exact Ev.now _

/-! spec_ReadVar -/
theorem take_all_eq (s : ByteArray) (K i : Nat) (hi : i < K) (hK : K ≤ s.size) : ((bytesOf s).take K).drop i = bt s (i : Int) :: ((bytesOf s).take K).drop (i + 1) := by
  have h := drop_bytes s i (by omega)
  rw [List.drop_take, List.drop_take, h, show K - i = (K - (i + 1)) + 1 by omega, List.take_succ_cons]
theorem spec_ReadVar_l1 (s : ByteArray) (K : Nat) (hK : K ≤ 7) (hs : K ≤ s.size) (r : Int × Int)
    (h : Ev (fun k => spec_ReadVar.l1 k s K (decV ((bytesOf s).take K)) (-1)) r) :
    ∀ i : Nat, i ≤ K → Ev (fun k => spec_ReadVar.l1 k s K (decV (((bytesOf s).take K).drop i)) ((i : Int) - 1)) r := by
  intro i
  induction i with
  | zero => intro _; simpa using h
  | succ i ih =>
    intro hi
    have hb := bt_u8 s (i : Int)
    have hd := decV_nonneg (((bytesOf s).take K).drop (i + 1))
    have hm := decV_max (((bytesOf s).take K).drop (i + 1)) (by simp; omega)
    have hi' := ih (by omega)
    rw [take_all_eq s K i (by omega) hs] at hi'
    simp only [decV] at hi'
    have e0 : ((i + 1 : Nat) : Int) - 1 = (i : Int) := by omega
    have c1 : (i : Int) ≥ 0 := by omega
    have c2 : (0 : Int) ≤ (i : Int) := by omega
    have c3 : (i : Int) < (s.size : Int) := by omega
    generalize decV (((bytesOf s).take K).drop (i + 1)) = q at *
    have e1 : wrap64 (q * 128) = q * 128 := w64 (by omega) (by omega)
    have e2 : Int.tmod (wrap64 (bt s i)) 128 = bt s i % 128 := by rw [w64 (by omega) (by omega), Int.tmod_eq_emod_of_nonneg (by omega)]
    have e3 : wrap64 (q * 128 + bt s i % 128) = bt s i % 128 + 128 * q := by rw [w64 (by omega) (by omega)]; omega
    have e4 : wrap64 ((i : Int) - 1) = (i : Int) - 1 := w64 (by omega) (by omega)
    rw [e0]
    refine Ev.step (fun k => by simp only [spec_ReadVar.l1]; rw [if_pos c1, if_pos c2, if_pos c3, e1, e2, e3, e4]) ?_
    exact hi'
/-- One try: the first K bytes. -/
theorem spec_ReadVar_try (s : ByteArray) (K : Nat) (h1 : 1 ≤ K) (hK : K ≤ 7) (hs : K ≤ s.size) (r : Int × Int)
    (hyes : goodV ((bytesOf s).take K) → (decV ((bytesOf s).take K), (K : Int)) = r)
    (hno : ¬ goodV ((bytesOf s).take K) → Ev (fun k => spec_ReadVar.l0 k s ((K + 1 : Nat) : Int)) r) :
    Ev (fun k => spec_ReadVar.l0 k s K) r := by
  have c1 : (K : Int) ≤ 7 := by omega
  have c2 : (K : Int) ≤ (s.size : Int) := by omega
  have c3 : (0 : Int) ≤ (K : Int) := by omega
  have hnil : ((bytesOf s).take K).drop K = [] := List.drop_of_length_le (by simp; omega)
  have hlen : ((bytesOf s).take K).length ≤ 7 := by simp; omega
  have hd := decV_nonneg ((bytesOf s).take K)
  have hm := decV_max ((bytesOf s).take K) hlen
  have e0 : wrap64 ((K : Int) - 1) = (K : Int) - 1 := w64 (by omega) (by omega)
  have e1 : wrap64 ((K : Int) + 1) = ((K + 1 : Nat) : Int) := by rw [w64 (by omega) (by omega)]; rfl
  refine Ev.step (fun k => by simp only [spec_ReadVar.l0]; rw [if_pos c1, decide_eq_true c2]) ?_
  refine Ev.step (fun k => by rw [spec_ReadVar.j1]) ?_
  simp only [if_true, e0]
  have := spec_ReadVar_l1 s K hK hs r ?_ K (Nat.le_refl _)
  · rw [hnil] at this; exact this
  · refine Ev.step (fun k => by simp only [spec_ReadVar.l1]; rw [if_neg (by decide)]) ?_
    refine Ev.bind (spec_Var_ev _) ?_
    simp only [if_pos c3, if_pos c2, e1, toList_eq_iff, bytesOf_extract, Int.toNat_natCast, List.drop_zero]
    have hv : varS (decV ((bytesOf s).take K)) = strOfNums (varB (decV ((bytesOf s).take K)).toNat) := by
      unfold varS; rw [if_pos ⟨hd, hm⟩]
    rw [hv, bytesOf_strOf (varB_range _)]
    by_cases hg : goodV ((bytesOf s).take K)
    · rw [varB_decV _ hg]
      simp only [if_true]
      exact evSome (hyes hg)
    · have hne : ¬ varB (decV ((bytesOf s).take K)).toNat = (bytesOf s).take K := by
        intro e; apply hg; rw [← e]; exact goodV_varB _
      simp only [if_neg hne]
      exact hno hg
theorem spec_ReadVar_end (s : ByteArray) (K : Nat) (h : 7 < K ∨ s.size < K) : Ev (fun k => spec_ReadVar.l0 k s K) (0, 0) := by
  by_cases c : (K : Int) ≤ 7
  · refine Ev.step (fun k => by simp only [spec_ReadVar.l0]; rw [if_pos c, decide_eq_false (by omega)]) ?_
    refine Ev.step (fun k => by rw [spec_ReadVar.j1]) ?_
    simp only [Bool.false_eq_true, if_false]; exact Ev.now _
  · refine Ev.step (fun k => by simp only [spec_ReadVar.l0]; rw [if_neg c]) ?_
    refine Ev.step (fun k => by rw [spec_ReadVar.j1]) ?_
    simp only [Bool.false_eq_true, if_false]; exact Ev.now _
/-- Behind a byte below 128 nothing fits. -/
theorem spec_ReadVar_low (s : ByteArray) (t : Nat) (ht : bt s (t : Int) < 128) (d : Nat) : ∀ K : Nat, t + 1 < K → K + d = min s.size 7 + 1 → Ev (fun k => spec_ReadVar.l0 k s K) (0, 0) := by
  induction d with
  | zero => intro K h1 h2; exact spec_ReadVar_end s K (by omega)
  | succ d ih =>
    intro K h1 h2
    have hng : ¬ goodV ((bytesOf s).take K) := by
      have e := List.take_append_drop t ((bytesOf s).take K)
      rw [take_all_eq s K t (by omega) (by omega)] at e
      rw [← e]
      refine not_goodV_low _ _ _ ?_ ht
      intro hn
      have := congrArg List.length hn
      simp [bytesOf_len] at this; omega
    exact spec_ReadVar_try s K (by omega) (by omega) (by omega) _ (fun hg => absurd hg hng) (fun _ => ih (K + 1) (by omega) (by omega))
theorem decV_take_succ (s : ByteArray) (i : Nat) (h : i < s.size) : decV ((bytesOf s).take (i + 1)) = decV ((bytesOf s).take i) + bt s i % 128 * 128 ^ i := by
  rw [take_bytes_succ s i h, decV_snoc, List.length_take, bytesOf_len, Nat.min_eq_left (by omega)]
theorem spec_ReadVar_l0 (s : ByteArray) (d : Nat) : ∀ i : Nat, i + d = min s.size 7 → (∀ x ∈ (bytesOf s).take i, 128 ≤ x) → Ev (fun k => spec_ReadVar.l0 k s ((i + 1 : Nat) : Int)) (rvGo s d i (decV ((bytesOf s).take i))) := by
  induction d with
  | zero => intro i hi hx; exact spec_ReadVar_end s (i + 1) (by omega)
  | succ d ih =>
    intro i hi hx
    have hb := bt_u8 s (i : Int)
    have htk := take_bytes_succ s i (by omega)
    have hlen : ((bytesOf s).take i).length = i := by simp [bytesOf_len]; omega
    have hrange : ∀ x ∈ (bytesOf s).take i, 128 ≤ x ∧ x ≤ 255 := fun x hm => ⟨hx x hm, (bytesOf_range s x (List.mem_of_mem_take hm)).2⟩
    simp only [rvGo]
    by_cases hlow : bt s (i : Int) < 128
    · rw [if_pos hlow]
      by_cases hz : 0 < i ∧ bt s (i : Int) = 0
      · rw [if_pos hz]
        refine spec_ReadVar_try s (i + 1) (by omega) (by omega) (by omega) _ (fun hg => ?_) (fun _ => ?_)
        · rw [htk] at hg
          rcases (goodV_last _ _ hg).2 with h | h
          · rw [h] at hlen; simp at hlen; omega
          · exact absurd hz.2 h
        · exact spec_ReadVar_low s i hlow d (i + 1 + 1) (by omega) (by omega)
      · rw [if_neg hz]
        refine spec_ReadVar_try s (i + 1) (by omega) (by omega) (by omega) _ (fun _ => ?_) (fun hg => ?_)
        · rw [decV_take_succ s i (by omega)]; rfl
        · refine absurd ?_ hg
          rw [htk]
          refine goodV_snoc _ hrange _ hb.1 hlow ?_
          by_cases h0 : i = 0
          · left; subst h0; rfl
          · right; omega
    · rw [if_neg hlow]
      refine spec_ReadVar_try s (i + 1) (by omega) (by omega) (by omega) _ (fun hg => ?_) (fun _ => ?_)
      · rw [htk] at hg
        exact absurd (goodV_last _ _ hg).1 hlow
      · rw [← decV_take_succ s i (by omega)]
        refine ih (i + 1) (by omega) ?_
        intro x hm
        rw [htk] at hm
        simp only [List.mem_append, List.mem_singleton] at hm
        rcases hm with hm | rfl
        · exact hx x hm
        · omega
theorem spec_ReadVar_ev (s : ByteArray) : Ev (fun k => spec_ReadVar.f k s) (readVar s) := by
  have := spec_ReadVar_l0 s (min s.size 7) 0 (by omega) (by simp)
  simpa [spec_ReadVar.f, readVar, decV] using this

/-! spec_l4Num -/
/-- The number at a place, and the place behind it; -1 where there is none. -/
def numAt (s : ByteArray) (a : Nat) : Int × Int := if (readVar (s.extract a s.size)).2 = 0 then (0, -1) else ((readVar (s.extract a s.size)).1, (a : Int) + (readVar (s.extract a s.size)).2)
theorem spec_l4Num_ev (s : ByteArray) (hs : s.size ≤ 1048576) (a : Nat) (ha : a ≤ s.size) : Ev (fun k => spec_l4Num.f k s a) (numAt s a) := by
  unfold spec_l4Num.f
  simp only [if_pos (show (0 : Int) ≤ (a : Int) by omega), if_pos (show (a : Int) ≤ (s.size : Int) by omega), Int.toNat_natCast]
  refine Ev.bind (spec_ReadVar_ev (s.extract a s.size)) ?_
  have hr := readVar_range (s.extract a s.size)
  rw [tail_size] at hr
  have e : wrap64 ((a : Int) + (readVar (s.extract a s.size)).2) = (a : Int) + (readVar (s.extract a s.size)).2 := w64 (by omega) (by omega)
  unfold numAt
  by_cases h : (readVar (s.extract a s.size)).2 = 0
  · rw [if_pos h]; simp only [if_pos h]; exact Ev.now _
  · rw [if_neg h]; simp only [if_neg h, e]; exact Ev.now _

/-! spec_GetTree -/
theorem numAt_no {s : ByteArray} {a : Nat} (h : (readVar (s.extract a s.size)).2 = 0) : numAt s a = (0, -1) := by unfold numAt; rw [if_pos h]
theorem numAt_yes {s : ByteArray} {a : Nat} (h : ¬ (readVar (s.extract a s.size)).2 = 0) (ha : a ≤ s.size) : numAt s a = ((readVar (s.extract a s.size)).1, ((a + (readVar (s.extract a s.size)).2.toNat : Nat) : Int)) := by
  have := (readVar_range (s.extract a s.size)).2.1
  unfold numAt; rw [if_neg h]; congr 1; omega
theorem spec_GetTree_l0 (s : ByteArray) (hs : s.size ≤ 1048576) (n : Nat) (hn : n ≤ 24) (d : Nat) : ∀ (i a : Nat) (acc : List S64), i + d = n → a ≤ s.size → acc.length = i → (∀ j, j < i → 0 ≤ dep acc j ∧ dep acc j ≤ 12) →
    Ev (fun k => spec_GetTree.l0 k s acc n a i) (getGo s d i a acc) := by
  induction d with
  | zero =>
    intro i a acc hi ha hl hd
    refine Ev.step (fun k => by rw [spec_GetTree.l0, if_neg (by omega)]) ?_
    simp only [getGo]
    by_cases h : a = s.size
    · simp only [if_pos h, if_pos (show (a : Int) = (s.size : Int) by omega)]; exact Ev.now _
    · simp only [if_neg h, if_neg (show ¬ (a : Int) = (s.size : Int) by omega)]; exact Ev.now _
  | succ d ih =>
    intro i a acc hi ha hl hd
    have c0 : (i : Int) < (n : Int) := by omega
    refine Ev.step (fun k => by rw [spec_GetTree.l0, if_pos c0]) ?_
    refine Ev.bind (spec_l4Num_ev s hs a ha) ?_
    simp only [getGo]
    have hr := readVar_range (s.extract a s.size)
    rw [tail_size] at hr
    by_cases h1 : (readVar (s.extract a s.size)).2 = 0
    · rw [numAt_no h1]
      simp only [if_pos h1, if_pos (show (-1 : Int) < 0 by omega)]; exact Ev.now _
    · rw [numAt_yes h1 ha]
      have hat : a + (readVar (s.extract a s.size)).2.toNat ≤ s.size := by omega
      have hq := readVar_range (s.extract (a + (readVar (s.extract a s.size)).2.toNat) s.size)
      rw [tail_size] at hq
      simp only [if_neg h1, if_neg (show ¬ (((a + (readVar (s.extract a s.size)).2.toNat : Nat) : Int) < 0) by omega), spec_LabelOk_eq, Option.bind_some, decide_eq_true_eq]
      generalize (readVar (s.extract a s.size)).1 = lb at *
      generalize a + (readVar (s.extract a s.size)).2.toNat = a2 at *
      by_cases h2 : 0 ≤ lb ∧ lb ≤ 5
      · simp only [if_pos h2, if_neg (show ¬ ¬ (0 ≤ lb ∧ lb ≤ 5) from fun h => h h2)]
        refine Ev.bind (spec_l4Num_ev s hs a2 hat) ?_
        by_cases h3 : (readVar (s.extract a2 s.size)).2 = 0
        · rw [numAt_no h3]
          simp only [if_pos h3, if_pos (show (-1 : Int) < 0 by omega)]; exact Ev.now _
        · rw [numAt_yes h3 hat]
          have hat3 : a2 + (readVar (s.extract a2 s.size)).2.toNat ≤ s.size := by omega
          simp only [if_neg h3, if_neg (show ¬ (((a2 + (readVar (s.extract a2 s.size)).2.toNat : Nat) : Int) < 0) by omega)]
          generalize a2 + (readVar (s.extract a2 s.size)).2.toNat = a3 at *
          generalize (readVar (s.extract a2 s.size)).1 = q at *
          by_cases h4 : q > 12
          · simp only [if_pos h4]; exact Ev.now _
          · simp only [if_neg h4]
            have hlen : acc.length < 8796093022208 := by omega
            have hnext := ih (i + 1) a3 (acc ++ [⟨lb, q⟩]) (by omega) hat3 (by simp; omega) (fun j hj => by
              by_cases hji : j < i
              · have := hd j hji
                unfold dep at this ⊢
                rw [List.getD_eq_getElem?_getD, List.getElem?_append_left (by omega), ← List.getD_eq_getElem?_getD]
                exact this
              · have : j = acc.length := by omega
                subst this
                unfold dep
                simp [List.getD_eq_getElem?_getD]
                omega)
            by_cases h0 : i = 0
            · subst h0
              by_cases hz : q = 0
              · have hb : ((q == 0) != (((0 : Nat) : Int) == 0)) = false := by rw [hz]; rfl
                have hs5 : ¬ ¬ shapeP acc 0 q := fun h => h ⟨fun _ => hz, fun h => by omega⟩
                have e4 : wrap64 (((0 : Nat) : Int) + 1) = ((0 + 1 : Nat) : Int) := by rw [w64 (by omega) (by omega)]; rfl
                simp only [hb, Bool.false_eq_true, if_false, if_neg (show ¬ ((0 : Nat) : Int) > 0 by omega), if_pos hlen, e4, if_neg hs5]
                exact hnext
              · have hb : ((q == 0) != (((0 : Nat) : Int) == 0)) = true := by simp [hz]
                have hs5 : ¬ shapeP acc 0 q := fun h => hz (h.1 rfl)
                simp only [hb, if_true, if_pos hs5]; exact Ev.now _
            · have hiz : ((i : Int) == 0) = false := by simp; omega
              by_cases hz : q = 0
              · have hb : ((q == 0) != ((i : Int) == 0)) = true := by rw [hiz, hz]; rfl
                have hs5 : ¬ shapeP acc i q := fun h => by have := h.2 (by omega); omega
                simp only [hb, if_true, if_pos hs5]; exact Ev.now _
              · have hb : ((q == 0) != ((i : Int) == 0)) = false := by rw [hiz]; simp [hz]
                have hpr := hd (i - 1) (by omega)
                have c5 : (0 : Int) ≤ ((i - 1 : Nat) : Int) := by omega
                have c6 : ((i - 1 : Nat) : Int) < (acc.length : Int) := by omega
                have c7 : (i : Int) > 0 := by omega
                have hsh : shapeP acc i q ↔ ¬ q > dep acc (i - 1) + 1 := ⟨fun h => by have := (h.2 (by omega)).2; omega, fun h => ⟨fun h => absurd h h0, fun _ => ⟨by omega, by omega⟩⟩⟩
                have e3 : wrap64 ((i : Int) - 1) = ((i - 1 : Nat) : Int) := by rw [w64 (by omega) (by omega)]; omega
                have e4 : wrap64 ((i : Int) + 1) = ((i + 1 : Nat) : Int) := by rw [w64 (by omega) (by omega)]; rfl
                have e5 : wrap64 (dep acc (i - 1) + 1) = dep acc (i - 1) + 1 := w64 (by omega) (by omega)
                simp only [hb, Bool.false_eq_true, if_false, if_pos c7, e3, e4, if_pos c5, if_pos c6, rdN, e5, if_pos hlen]
                by_cases h6 : q > dep acc (i - 1) + 1
                · have hs5 : ¬ shapeP acc i q := fun h => (hsh.1 h) h6
                  simp only [if_pos h6, if_pos hs5]; exact Ev.now _
                · have hs5 : ¬ ¬ shapeP acc i q := fun h => h (hsh.2 h6)
                  simp only [if_neg h6, if_neg hs5]
                  exact hnext
      · simp only [if_neg h2, if_pos h2]; exact Ev.now _
theorem spec_GetTree_ev (s : ByteArray) (hs : s.size ≤ 1048576) : Ev (fun k => spec_GetTree.f k s) (getT s) := by
  unfold spec_GetTree.f getT
  simp only [Option.bind_some]
  have h0 := spec_l4Num_ev s hs 0 (Nat.zero_le _)
  refine Ev.bind h0 ?_
  have hr := readVar_range s
  by_cases h1 : (readVar s).2 = 0
  · rw [numAt_no (by rw [tail_all]; exact h1)]
    simp only [if_pos h1, if_pos (show (-1 : Int) < 0 by omega)]; exact Ev.now _
  · rw [numAt_yes (by rw [tail_all]; exact h1) (Nat.zero_le _), tail_all, Nat.zero_add]
    simp only [if_neg h1, if_neg (show ¬ (((readVar s).2.toNat : Int) < 0) by omega), spec_l1In_eq, Option.bind_some, decide_eq_true_eq]
    by_cases h2 : 1 ≤ (readVar s).1 ∧ (readVar s).1 ≤ 24
    · simp only [if_pos h2, if_neg (show ¬ ¬ (1 ≤ (readVar s).1 ∧ (readVar s).1 ≤ 24) from fun h => h h2)]
      have := spec_GetTree_l0 s hs (readVar s).1.toNat (by omega) (readVar s).1.toNat 0 (readVar s).2.toNat [] (by omega) (by omega) rfl (fun j hj => by omega)
      rw [Int.toNat_of_nonneg hr.1] at this
      exact this
    · simp only [if_neg h2, if_pos h2]; exact Ev.now _

/-! impl_within -/
theorem impl_within_eq (a b c : Int) : impl_within.f a b c = some (decide (b ≤ a ∧ a ≤ c)) := by
  unfold impl_within.f
  by_cases h : b ≤ a
  · rw [if_pos h]; simp [h]
  · rw [if_neg h]; simp [h]

/-! impl_ReadVar -/
theorem p128 (i : Nat) (h : i ≤ 7) : (128 : Int) ^ i ≤ 562949953421312 := by
  have h1 : (128 : Nat) ^ i ≤ 128 ^ 7 := Nat.pow_le_pow_right (by decide) h
  have h2 : ((128 ^ i : Nat) : Int) ≤ ((128 ^ 7 : Nat) : Int) := by omega
  simpa using h2
theorem p128_pos (i : Nat) : (0 : Int) < 128 ^ i := Int.pow_pos (by decide)
theorem or_piece (b n : Int) (i : Nat) (hi : i ≤ 6) (h0 : 0 ≤ b) (h1 : b ≤ 255) (hn : 0 ≤ n) (hn1 : n < 128 ^ i) :
    Go.bits .or .i64 n (shl .i64 (wrap64 (Go.bits .and .u8 b 127)) (wrap64 (7 * (i : Int)))) = n + b % 128 * 128 ^ i ∧ n + b % 128 * 128 ^ i < 128 ^ (i + 1) := by
  have hp := p128 (i + 1) (by omega)
  have hq := p128_pos i
  have e7 : (2 : Int) ^ (7 * i) = 128 ^ i := by rw [Int.pow_mul]; rfl
  have hb : b % 128 * 128 ^ i ≤ 127 * 128 ^ i := Int.mul_le_mul_of_nonneg_right (by omega) (by omega)
  have hb0 : 0 ≤ b % 128 * 128 ^ i := Int.mul_nonneg (by omega) (by omega)
  have hmod : (b % 128 * 128 ^ i) % 2 ^ (7 * i) = 0 := by rw [e7]; exact Int.mul_emod_left _ _
  have hs : (128 : Int) ^ (i + 1) = 128 ^ i * 128 := Int.pow_succ ..
  rw [hs] at hp ⊢
  have e1 : shl .i64 (wrap64 (Go.bits .and .u8 b 127)) (wrap64 (7 * (i : Int))) = b % 128 * 128 ^ i := by
    unfold shl
    rw [and127_u8 h0 (by omega), w64 (n := b % 128) (by omega) (by omega), w64 (n := 7 * (i : Int)) (by omega) (by omega)]
    rw [show min (7 * (i : Int)).toNat IntKind.i64.bits = 7 * i by simp only [IntKind.bits]; omega, e7]
    generalize b % 128 * 128 ^ i = y at *
    exact wraps_i64 _ hb0 (by omega)
  rw [e1]
  refine ⟨or_low (7 * i) hn (by rw [e7]; exact hn1) hb0 ?_ hmod (by omega), ?_⟩
  · generalize b % 128 * 128 ^ i = y at *; omega
  · generalize b % 128 * 128 ^ i = y at *; omega
theorem impl_ReadVar_l0 (s : ByteArray) (m : Nat) (hm : m ≤ 7) (hs : m ≤ s.size) (d : Nat) : ∀ (i : Nat) (n : Int), i + d = m → 0 ≤ n → n < 128 ^ i → Ev (fun k => impl_ReadVar.l0 k s n m i) (rvGo s d i n) := by
  induction d with
  | zero =>
    intro i n hi h0 h1
    exact Ev.step (f := fun _ => some (0, 0)) (fun k => by simp only [impl_ReadVar.l0]; rw [if_neg (by omega)]) (Ev.now _)
  | succ d ih =>
    intro i n hi h0 h1
    have hb := bt_u8 s (i : Int)
    obtain ⟨e1, hlt⟩ := or_piece (bt s i) n i (by omega) hb.1 hb.2 h0 h1
    have hge : 0 ≤ n + bt s i % 128 * 128 ^ i := by
      have := Int.mul_nonneg (show 0 ≤ bt s (i : Int) % 128 by omega) (Int.le_of_lt (p128_pos i))
      omega
    have hp := p128 (i + 1) (by omega)
    have hmax : ¬ (n + bt s i % 128 * 128 ^ i > 562949953421311) := by
      generalize n + bt s i % 128 * 128 ^ i = y at *
      generalize (128 : Int) ^ (i + 1) = z at *
      omega
    have c1 : (i : Int) < (m : Int) := by omega
    have c2 : (0 : Int) ≤ (i : Int) := by omega
    have c3 : (i : Int) < (s.size : Int) := by omega
    have hn := ih (i + 1) (n + bt s i % 128 * 128 ^ i) (by omega) hge hlt
    have c5 : (0 : Int) ≤ wrap64 (7 * (i : Int)) := by rw [w64 (by omega) (by omega)]; omega
    have e4 : wrap64 ((i : Int) + 1) = (i : Int) + 1 := w64 (by omega) (by omega)
    refine Ev.step (fun k => by simp only [impl_ReadVar.l0]; rw [e1, e4, if_pos c1, if_pos c2, if_pos c3, if_pos c5]) ?_
    simp only [rvGo]
    by_cases hlow : bt s (i : Int) < 128
    · simp only [if_pos hlow, if_neg hmax]
      by_cases hpos : (i : Int) > 0
      · simp only [if_pos hpos]
        by_cases hz : bt s (i : Int) = 0
        · simp only [if_pos hz]
          rw [if_pos ⟨Int.natCast_pos.mp hpos, hz⟩]; exact Ev.now _
        · simp only [if_neg hz]
          rw [if_neg (fun h => hz h.2)]; exact Ev.now _
      · simp only [if_neg hpos]
        rw [if_neg (fun h => hpos (Int.natCast_pos.mpr h.1))]; exact Ev.now _
    · simp only [if_neg hlow]
      exact hn
theorem impl_ReadVar_ev (s : ByteArray) (hs : s.size ≤ 140737488351232) : Ev (fun k => impl_ReadVar.f k s) (readVar s) := by
  unfold impl_ReadVar.f readVar
  have e : mn (s.size : Int) 7 = ((min s.size 7 : Nat) : Int) := by
    unfold mn; by_cases h : (7 : Int) < s.size
    · rw [if_pos h]; omega
    · rw [if_neg h]; omega
  rw [e]
  exact impl_ReadVar_l0 s _ (by omega) (by omega) (min s.size 7) 0 0 (by omega) (by omega) (by simp)

/-! impl_LabelOk -/
theorem impl_LabelOk_eq (a : Int) : impl_LabelOk.f a = some (decide (0 ≤ a ∧ a ≤ 5)) := by
  unfold impl_LabelOk.f; simp only [impl_within_eq, Option.bind_some]

/-! impl_depthOk -/
theorem impl_depthOk_eq (l : List S64) (i : Nat) (hi : i < l.length) (hl : l.length ≤ 1048576) (hp : 0 < i → -1 ≤ dep l (i - 1) ∧ dep l (i - 1) ≤ 12) :
    impl_depthOk.f l (i : Int) = some (decide ((i = 0 → dep l i = 0) ∧ (0 < i → 1 ≤ dep l i ∧ dep l i ≤ dep l (i - 1) + 1))) := by
  unfold impl_depthOk.f
  by_cases h0 : i = 0
  · subst h0
    rw [if_pos (show ((0 : Nat) : Int) = 0 by rfl), if_pos (by omega)]
    have : rd_T64 l 0 = l.getD 0 z64 := rdN l 0
    rw [this]
    congr 1
    by_cases hz : dep l 0 = 0
    · rw [decide_eq_true ⟨fun _ => hz, fun h => by omega⟩]; show (dep l 0 == 0) = true; rw [hz]; rfl
    · rw [decide_eq_false (fun h => hz (h.1 rfl))]; show (dep l 0 == 0) = false; exact beq_eq_false_iff_ne.mpr hz
  · have hp := hp (by omega)
    have c3 : ¬ ((i : Int) = 0) := by omega
    have c4 : (0 : Int) ≤ (i : Int) := by omega
    have c5 : (i : Int) < (l.length : Int) := by omega
    have c6 : (0 : Int) ≤ ((i - 1 : Nat) : Int) := by omega
    have c7 : ((i - 1 : Nat) : Int) < (l.length : Int) := by omega
    have e3 : wrap64 ((i : Int) - 1) = ((i - 1 : Nat) : Int) := by rw [w64 (by omega) (by omega)]; omega
    rw [if_neg c3, if_pos c4, if_pos c5, e3, if_pos c6, if_pos c7, rdN, rdN]
    have e5 : wrap64 (dep l (i - 1) + 1) = dep l (i - 1) + 1 := w64 (by omega) (by omega)
    rw [e5, impl_within_eq]
    simp only [Option.bind_some]
    congr 1
    by_cases hz : 1 ≤ dep l i ∧ dep l i ≤ dep l (i - 1) + 1
    · rw [decide_eq_true hz, decide_eq_true ⟨fun h => absurd h h0, fun _ => hz⟩]
    · rw [decide_eq_false hz, decide_eq_false (fun h => hz (h.2 (by omega)))]

/-! impl_GetTree -/
theorem dep_app (acc : List S64) (x : S64) (j : Nat) (h : j < acc.length) : dep (acc ++ [x]) j = dep acc j := by
  unfold dep
  rw [List.getD_eq_getElem?_getD, List.getElem?_append_left h, ← List.getD_eq_getElem?_getD]
theorem dep_last (acc : List S64) (x : S64) : dep (acc ++ [x]) acc.length = x.f1 := by
  unfold dep; simp [List.getD_eq_getElem?_getD]
theorem impl_GetTree_l0 (s : ByteArray) (hs : s.size ≤ 1048576) (n : Nat) (hn : n ≤ 24) (d : Nat) : ∀ (i a : Nat) (acc : List S64), i + d = n → a ≤ s.size → acc.length = i → (∀ j, j < i → 0 ≤ dep acc j ∧ dep acc j ≤ 12) →
    Ev (fun k => impl_GetTree.l0 k acc (s.extract a s.size) n i) (getGo s d i a acc) := by
  induction d with
  | zero =>
    intro i a acc hi ha hl hd
    refine Ev.step (fun k => by rw [impl_GetTree.l0, if_neg (by omega)]) ?_
    simp only [getGo]
    by_cases h : a = s.size
    · simp only [if_pos h, if_pos ((tail_nil s a ha).2 h)]; exact Ev.now _
    · simp only [if_neg h, if_neg (fun e => h ((tail_nil s a ha).1 e))]; exact Ev.now _
  | succ d ih =>
    intro i a acc hi ha hl hd
    have c0 : (i : Int) < (n : Int) := by omega
    have e4 : wrap64 ((i : Int) + 1) = ((i + 1 : Nat) : Int) := by rw [w64 (by omega) (by omega)]; rfl
    have hlen : acc.length < 8796093022208 := by omega
    have hr := readVar_range (s.extract a s.size)
    have hts : (s.extract a s.size).size ≤ 140737488351232 := by rw [tail_size]; omega
    have key : ∃ L R, ∃ C : Int, Ev (fun k => impl_getNode.f k acc (s.extract a s.size)) (L, R, C) ∧ (if C = 0 then Ev (fun k => impl_GetTree.l0 k L R n ((i + 1 : Nat) : Int)) (getGo s (d + 1) i a acc) else (([], C) = getGo s (d + 1) i a acc)) := by
      simp only [getGo]
      by_cases h1 : (readVar (s.extract a s.size)).2 = 0
      · refine ⟨acc, s.extract a s.size, 1, ?_, ?_⟩
        · unfold impl_getNode.f
          refine Ev.bind (impl_ReadVar_ev _ hts) ?_
          simp only [if_pos h1]; exact Ev.now _
        · rw [if_neg (by decide), if_pos h1]
      · rw [if_neg h1]
        by_cases h2 : 0 ≤ (readVar (s.extract a s.size)).1 ∧ (readVar (s.extract a s.size)).1 ≤ 5
        · rw [if_neg (show ¬ ¬ (0 ≤ (readVar (s.extract a s.size)).1 ∧ (readVar (s.extract a s.size)).1 ≤ 5) from fun h => h h2)]
          have hq := readVar_range (s.extract (a + (readVar (s.extract a s.size)).2.toNat) s.size)
          have hcut : (s.extract a s.size).extract (readVar (s.extract a s.size)).2.toNat (s.extract a s.size).size = s.extract (a + (readVar (s.extract a s.size)).2.toNat) s.size := tail_tail s a _ ha
          have hat : a + (readVar (s.extract a s.size)).2.toNat ≤ s.size := by rw [tail_size] at hr; omega
          have hts2 : (s.extract (a + (readVar (s.extract a s.size)).2.toNat) s.size).size ≤ 140737488351232 := by rw [tail_size]; omega
          have start : ∀ (T : List S64 × ByteArray × Int), Ev (fun k => if (readVar (s.extract (a + (readVar (s.extract a s.size)).2.toNat) s.size)).2 = 0 then (some (acc ++ [(⟨(readVar (s.extract a s.size)).1, (readVar (s.extract (a + (readVar (s.extract a s.size)).2.toNat) s.size)).1⟩ : S64)], s.extract (a + (readVar (s.extract a s.size)).2.toNat) s.size, (1 : Int))) else (if (readVar (s.extract (a + (readVar (s.extract a s.size)).2.toNat) s.size)).1 > 12 then (some (acc ++ [⟨(readVar (s.extract a s.size)).1, (readVar (s.extract (a + (readVar (s.extract a s.size)).2.toNat) s.size)).1⟩], s.extract (a + (readVar (s.extract a s.size)).2.toNat) s.size, 4)) else ((impl_depthOk.f (acc ++ [⟨(readVar (s.extract a s.size)).1, (readVar (s.extract (a + (readVar (s.extract a s.size)).2.toNat) s.size)).1⟩]) i).bind fun t176 => (if t176 = true then (some (acc ++ [⟨(readVar (s.extract a s.size)).1, (readVar (s.extract (a + (readVar (s.extract a s.size)).2.toNat) s.size)).1⟩], s.extract (a + (readVar (s.extract a s.size)).2.toNat + (readVar (s.extract (a + (readVar (s.extract a s.size)).2.toNat) s.size)).2.toNat) s.size, 0)) else (some (acc ++ [⟨(readVar (s.extract a s.size)).1, (readVar (s.extract (a + (readVar (s.extract a s.size)).2.toNat) s.size)).1⟩], s.extract (a + (readVar (s.extract a s.size)).2.toNat) s.size, 5)))))) T → Ev (fun k => impl_getNode.f k acc (s.extract a s.size)) T := by
            intro T hT
            unfold impl_getNode.f
            refine Ev.bind (impl_ReadVar_ev _ hts) ?_
            simp only [if_neg h1, impl_LabelOk_eq, Option.bind_some, decide_eq_true_eq, if_pos h2, if_pos hr.2.1, if_pos hr.2.2, hcut]
            refine Ev.bind (impl_ReadVar_ev _ hts2) ?_
            have el : wrap64 (((acc ++ [(⟨(readVar (s.extract a s.size)).1, (readVar (s.extract (a + (readVar (s.extract a s.size)).2.toNat) s.size)).1⟩ : S64)]).length : Int) - 1) = (i : Int) := by
              rw [List.length_append, List.length_singleton, w64 (by omega) (by omega)]; omega
            have hcut2 := tail_tail s (a + (readVar (s.extract a s.size)).2.toNat) (readVar (s.extract (a + (readVar (s.extract a s.size)).2.toNat) s.size)).2.toNat hat
            simp only [if_pos hlen, Option.bind_some, el, if_pos hq.2.1, if_pos hq.2.2, hcut2]
            exact hT
          generalize (readVar (s.extract a s.size)).1 = lb at *
          generalize a + (readVar (s.extract a s.size)).2.toNat = a2 at *
          by_cases h3 : (readVar (s.extract a2 s.size)).2 = 0
          · exact ⟨_, _, 1, start _ (by simp only [if_pos h3]; exact Ev.now _), by rw [if_neg (by decide), if_pos h3]⟩
          · rw [if_neg h3]
            by_cases h4 : (readVar (s.extract a2 s.size)).1 > 12
            · exact ⟨_, _, 4, start _ (by simp only [if_neg h3, if_pos h4]; exact Ev.now _), by rw [if_neg (by decide), if_pos h4]⟩
            · rw [if_neg h4]
              have hdq : ∀ j, j < i + 1 → 0 ≤ dep (acc ++ [(⟨lb, (readVar (s.extract a2 s.size)).1⟩ : S64)]) j ∧ dep (acc ++ [(⟨lb, (readVar (s.extract a2 s.size)).1⟩ : S64)]) j ≤ 12 := fun j hj => by
                by_cases hji : j < i
                · rw [dep_app _ _ _ (by omega)]; exact hd j hji
                · have : j = acc.length := by omega
                  subst this
                  rw [dep_last]
                  exact ⟨hq.1, by show (readVar (s.extract a2 s.size)).1 ≤ 12; omega⟩
              have hdo := impl_depthOk_eq (acc ++ [(⟨lb, (readVar (s.extract a2 s.size)).1⟩ : S64)]) i (by simp; omega) (by simp; omega) (fun h0 => by have := hdq (i - 1) (by omega); exact ⟨by omega, this.2⟩)
              have hlast : dep (acc ++ [(⟨lb, (readVar (s.extract a2 s.size)).1⟩ : S64)]) i = (readVar (s.extract a2 s.size)).1 := by rw [← hl]; exact dep_last _ _
              have hprev : 0 < i → dep (acc ++ [(⟨lb, (readVar (s.extract a2 s.size)).1⟩ : S64)]) (i - 1) = dep acc (i - 1) := fun h0 => dep_app _ _ _ (by omega)
              have hiff : ((i = 0 → dep (acc ++ [(⟨lb, (readVar (s.extract a2 s.size)).1⟩ : S64)]) i = 0) ∧ (0 < i → 1 ≤ dep (acc ++ [(⟨lb, (readVar (s.extract a2 s.size)).1⟩ : S64)]) i ∧ dep (acc ++ [(⟨lb, (readVar (s.extract a2 s.size)).1⟩ : S64)]) i ≤ dep (acc ++ [(⟨lb, (readVar (s.extract a2 s.size)).1⟩ : S64)]) (i - 1) + 1)) ↔ shapeP acc i (readVar (s.extract a2 s.size)).1 := by
                unfold shapeP
                rw [hlast]
                by_cases h0 : 0 < i
                · rw [hprev h0]
                · constructor
                  · rintro ⟨x, y⟩; exact ⟨x, fun h => absurd h h0⟩
                  · rintro ⟨x, y⟩; exact ⟨x, fun h => absurd h h0⟩
              by_cases h5 : shapeP acc i (readVar (s.extract a2 s.size)).1
              · rw [if_neg (fun h => h h5)]
                rw [decide_eq_true (hiff.2 h5)] at hdo
                refine ⟨_, _, 0, start _ (by simp only [if_neg h3, if_neg h4, hdo, Option.bind_some, if_true]; exact Ev.now _), ?_⟩
                rw [if_pos rfl]
                have hq2 := hq.2.2
                rw [tail_size] at hq2
                exact ih (i + 1) _ _ (by omega) (by omega) (by simp; omega) hdq
              · rw [if_pos h5]
                rw [decide_eq_false (fun h => h5 (hiff.1 h))] at hdo
                exact ⟨_, _, 5, start _ (by simp only [if_neg h3, if_neg h4, hdo, Option.bind_some, Bool.false_eq_true, if_false]; exact Ev.now _), by rw [if_neg (by decide)]⟩
        · rw [if_pos h2]
          refine ⟨acc, s.extract a s.size, 3, ?_, ?_⟩
          · unfold impl_getNode.f
            refine Ev.bind (impl_ReadVar_ev _ hts) ?_
            simp only [if_neg h1, impl_LabelOk_eq, Option.bind_some, decide_eq_true_eq, if_neg h2]; exact Ev.now _
          · rw [if_neg (by decide)]
    obtain ⟨Lk, Rk, C, hev, hC⟩ := key
    refine Ev.step (fun k => by rw [impl_GetTree.l0, if_pos c0, e4]) ?_
    refine Ev.bind hev ?_
    by_cases h : C = 0
    · rw [if_pos h] at hC
      simp only [if_pos h]; exact hC
    · rw [if_neg h] at hC
      simp only [if_neg h]; exact evSome hC
theorem impl_GetTree_ev (s : ByteArray) (hs : s.size ≤ 1048576) : Ev (fun k => impl_GetTree.f k s) (getT s) := by
  unfold impl_GetTree.f getT
  refine Ev.bind (impl_ReadVar_ev s (by omega)) ?_
  have hr := readVar_range s
  by_cases h1 : (readVar s).2 = 0
  · simp only [if_pos h1]; exact Ev.now _
  · simp only [if_neg h1, impl_within_eq, Option.bind_some, decide_eq_true_eq]
    by_cases h2 : 1 ≤ (readVar s).1 ∧ (readVar s).1 ≤ 24
    · simp only [if_pos h2, if_neg (show ¬ ¬ (1 ≤ (readVar s).1 ∧ (readVar s).1 ≤ 24) from fun h => h h2), if_pos hr.2.1, if_pos hr.2.2]
      have := impl_GetTree_l0 s hs (readVar s).1.toNat (by omega) (readVar s).1.toNat 0 (readVar s).2.toNat [] (by omega) (by omega) rfl (fun j hj => by omega)
      rw [Int.toNat_of_nonneg hr.1] at this
      exact this
    · simp only [if_neg h2, if_pos h2]; exact Ev.now _

theorem law_j (s : ByteArray) (r : List S64) (c : Int) (hr : r.length ≤ 1048576) (hi : Ev (fun k => impl_GetTree.f k s) (r, c)) :
    Ev (fun k => laws_FnExactGetTree.j0 k s r c r false) true := by
  refine Ev.step (fun k => by rw [laws_FnExactGetTree.j0]) ?_
  simp only [Bool.false_eq_true, if_false]
  have c1 : ¬ (1 + 2 * (r.length : Int) < 0) := by omega
  refine Ev.bind (markN_ev r hr) (Ev.bind (heldN_ev r hr) ?_)
  simp only [if_neg c1, if_true]
  refine Ev.bind hi (Ev.bind (eqNodeS_ev r hr) ?_)
  simp only [if_true, bne_self_eq_false]
  refine Ev.step (fun k => by rw [laws_FnExactGetTree.j1]) ?_
  simp only [Bool.false_eq_true, if_false]
  refine Ev.bind (heldN_ev r hr) ?_
  simp only [if_neg c1, if_true]
  exact Ev.now _
theorem law : laws_FnExactGetTree.Pure := by
  intro a0 _
  refine Ev.rounds ?_
  unfold laws_FnExactGetTree.f
  by_cases h : (a0.size : Int) > 1048576
  · simp only [if_pos h]; exact Ev.now _
  · simp only [if_neg h]
    have hs := spec_GetTree_ev a0 (by omega)
    have hi := impl_GetTree_ev a0 (by omega)
    have hr := getT_small a0
    obtain ⟨r, c⟩ : List S64 × Int := getT a0
    generalize getT a0 = T at hs hi hr
    obtain ⟨r, c⟩ := T
    refine Ev.bind hs (Ev.bind hi (Ev.bind (eqNodeS_ev r hr) ?_))
    simp only [if_true, bne_self_eq_false]
    exact law_j a0 r c hr hi

end Go.Proofs.Yteflhablmeelbaa.PureFnExactGetTree
namespace Go.Proofs.Yteflhablmeelbaa.Pure
open Go.RowKit Go.Proofs.Yteflhablmeelbaa.HFnExactGetTree
theorem FnExactGetTree : laws_FnExactGetTree.Pure := Go.Proofs.Yteflhablmeelbaa.PureFnExactGetTree.law
end Go.Proofs.Yteflhablmeelbaa.Pure
