/- For every code: what is written of the trees and costs drawn from it is read again, and what is read is what would be written: no other bytes are read. Condition: none but the model's own bound on a slice's size. -/
import Derived.Test.YtpkokfffjgdjoaaHFnBytesx20
import Derived.Test.YtpkokfffjgdjoaaM
import Derived.Test.YtpkokfffjgdjoaaT
import Derived.Test.YtpkokfffjgdjoaaNV
import Derived.Test.YtpkokfffjgdjoaaMB
import Derived.Test.YtpkokfffjgdjoaaTB
namespace Go.Proofs.Ytpkokfffjgdjoaa.PureFnBytes
open Go.RowKit Go.Proofs.Ytpkokfffjgdjoaa.HFnBytes Go.Proofs.YtpkokfffjgdjoaaW.PrintWords Go.Proofs.YtpkokfffjgdjoaaW.PrintLast Go.Proofs.YtpkokfffjgdjoaaW.PrintMore Go.Proofs.Ytpkokfffjgdjoaa.M Go.Proofs.Ytpkokfffjgdjoaa.T
set_option linter.unusedVariables false
set_option linter.unusedSimpArgs false

abbrev lab (l : List S46) (i : Nat) : Int := (l.getD i z46).f0
abbrev dep (l : List S46) (i : Nat) : Int := (l.getD i z46).f1
theorem rdN (l : List S46) (i : Nat) : rd_T46 l (i : Int) = l.getD i z46 := by unfold rd_T46; simp
def subGo (l : List S46) (v : Int) : Nat → Nat → List S46
  | 0, _ => []
  | d + 1, j => ⟨lab l j, dep l j - v⟩ :: subGo l v d (j + 1)
theorem subGo_len (l : List S46) (v : Int) (d : Nat) : ∀ j, (subGo l v d j).length = d := by
  induction d with
  | zero => intro j; rfl
  | succ d ih => intro j; simp [subGo, ih]
def subT (l : List S46) (a : Int) : List S46 := if atB (lab l) (dep l) l.length a = true then subGo l (dep l a.toNat) (endI (dep l) l.length a.toNat - a.toNat) a.toNat else []
theorem subT_small (l : List S46) (a : Int) (hl : l.length ≤ 1048576) : (subT l a).length ≤ 1048576 := by
  unfold subT
  by_cases h : atB (lab l) (dep l) l.length a = true
  · obtain ⟨i, rfl, hi, _⟩ := atB_nat h
    rw [if_pos h, subGo_len]
    have := endI_le (dep l) l.length i hi
    simp only [Int.toNat_natCast]; omega
  · rw [if_neg h]; simp
/-- Which child of its parent a node is. -/
def rankT (l : List S46) (a : Int) : Int := if atB (lab l) (dep l) l.length a = true ∧ 0 ≤ parI (dep l) a.toNat then idxGo a (kidsI (dep l) l.length (parI (dep l) a.toNat).toNat) 0 else -1
theorem rankT_yes (l : List S46) (a : Int) (h : atB (lab l) (dep l) l.length a = true) (h0 : 0 ≤ parI (dep l) a.toNat) : rankT l a = idxGo a (kidsI (dep l) l.length (parI (dep l) a.toNat).toNat) 0 := by unfold rankT; rw [if_pos ⟨h, h0⟩]
theorem rankT_no (l : List S46) (a : Int) (h : ¬ (atB (lab l) (dep l) l.length a = true ∧ 0 ≤ parI (dep l) a.toNat)) : rankT l a = -1 := by unfold rankT; rw [if_neg h]
theorem par_at (l : List S46) (a : Int) (h : atB (lab l) (dep l) l.length a = true) (h0 : 0 ≤ parI (dep l) a.toNat) : atB (lab l) (dep l) l.length (parI (dep l) a.toNat) = true := by
  obtain ⟨i, rfl, hi, ht⟩ := atB_nat h
  have := parGo_range (dep l) (dep l i) i
  simp only [Int.toNat_natCast, parI] at h0 ⊢
  exact atB_iff.2 ⟨ht, h0, by omega⟩
theorem kids_small (l : List S46) (i : Nat) (hi : i < l.length) (hl : l.length ≤ 1048576) : (kidsI (dep l) l.length i).length ≤ 1048576 := by
  have := kidGo_len (dep l) (dep l i + 1) (endI (dep l) l.length i - (i + 1)) (i + 1)
  have := endI_le (dep l) l.length i hi
  unfold kidsI; omega
theorem kidsT_small (l : List S46) (a : Int) (hl : l.length ≤ 1048576) : (if atB (lab l) (dep l) l.length a = true then kidsI (dep l) l.length a.toNat else []).length ≤ 1048576 := by
  by_cases h : atB (lab l) (dep l) l.length a = true
  · obtain ⟨i, rfl, hi, _⟩ := atB_nat h
    rw [if_pos h]
    have := kidGo_len (dep l) (dep l i + 1) (endI (dep l) l.length i - (i + 1)) (i + 1)
    have := endI_le (dep l) l.length i hi
    simp only [Int.toNat_natCast]
    unfold kidsI; omega
  · rw [if_neg h]; simp
/-- Is node b under node a? -/
def underT (l : List S46) (a b : Int) : Bool := atB (lab l) (dep l) l.length a && (atB (lab l) (dep l) l.length b && decide (a < b ∧ b < ((endI (dep l) l.length a.toNat : Nat) : Int)))
/-- Does node b follow node a, and isn't under it? -/
def leftT (l : List S46) (a b : Int) : Bool := atB (lab l) (dep l) l.length a && (atB (lab l) (dep l) l.length b && decide (b ≥ ((endI (dep l) l.length a.toNat : Nat) : Int)))
def heightT (l : List S46) : Int := if treeB (lab l) (dep l) l.length = true then highGo (dep l) l.length 0 0 else 0
def leavesT (l : List S46) : Int := if treeB (lab l) (dep l) l.length = true then leafGo (dep l) l.length l.length 0 0 else 0
def sameGo (a b : List S46) : Nat → Nat → Bool
  | 0, _ => true
  | d + 1, j => if (!((a.getD j z46).f0 == (b.getD j z46).f0) || (!((a.getD j z46).f1 == (b.getD j z46).f1))) = true then false else sameGo a b d (j + 1)
def sameT (a b : List S46) : Bool := if a.length = b.length then sameGo a b a.length 0 else false
def putGo (l : List S46) : Nat → Nat → ByteArray → ByteArray
  | 0, _, s => s
  | d + 1, j, s => putGo l d (j + 1) (s ++ (varS (lab l j) ++ varS (dep l j)))
def putT (l : List S46) : ByteArray := if treeB (lab l) (dep l) l.length = true then putGo l l.length 0 (varS l.length) else ⟨#[]⟩
/-- A node of depth q can stand behind these. -/
def shapeP (acc : List S46) (i : Nat) (q : Int) : Prop := (i = 0 → q = 0) ∧ (0 < i → 1 ≤ q ∧ q ≤ dep acc (i - 1) + 1)
instance (acc : List S46) (i : Nat) (q : Int) : Decidable (shapeP acc i q) := by unfold shapeP; infer_instance
/-- The nodes at place a on, d of them still to come, i of them behind. -/
def getGo (s : ByteArray) : Nat → Nat → Nat → List S46 → List S46 × Int
  | 0, _, a, acc => if a = s.size then (acc, 0) else ([], 6)
  | d + 1, i, a, acc =>
    let r := readVar (s.extract a s.size)
    if r.2 = 0 then ([], 1)
    else if ¬ (0 ≤ r.1 ∧ r.1 ≤ 5) then ([], 3)
    else
      let q := readVar (s.extract (a + r.2.toNat) s.size)
      if q.2 = 0 then ([], 1)
      else if q.1 > 12 then ([], 4)
      else if ¬ shapeP acc i q.1 then ([], 5)
      else getGo s d (i + 1) (a + r.2.toNat + q.2.toNat) (acc ++ [⟨r.1, q.1⟩])
def getT (s : ByteArray) : List S46 × Int :=
  let r := readVar s
  if r.2 = 0 then ([], 1) else if ¬ (1 ≤ r.1 ∧ r.1 ≤ 24) then ([], 2) else getGo s r.1.toNat 0 r.2.toNat []
theorem getGo_len (s : ByteArray) (d : Nat) : ∀ (i a : Nat) (acc : List S46), (getGo s d i a acc).1.length ≤ acc.length + d := by
  induction d with
  | zero => intro i a acc; simp only [getGo]; split <;> simp
  | succ d ih =>
    intro i a acc
    simp only [getGo]
    split
    · simp
    split
    · simp
    split
    · simp
    split
    · simp
    split
    · simp
    have := ih (i + 1) (a + (readVar (s.extract a s.size)).2.toNat + (readVar (s.extract (a + (readVar (s.extract a s.size)).2.toNat) s.size)).2.toNat) (acc ++ [⟨(readVar (s.extract a s.size)).1, (readVar (s.extract (a + (readVar (s.extract a s.size)).2.toNat) s.size)).1⟩])
    simp at this ⊢
    omega
theorem getT_small (s : ByteArray) : (getT s).1.length ≤ 1048576 := by
  unfold getT
  simp only
  split
  · simp
  split
  · simp
  rename_i h
  have := getGo_len s (readVar s).1.toNat 0 (readVar s).2.toNat []
  simp at this
  omega

def pricesT (l : List Int) (n : Int) : Bool := decide ((l.length : Int) = n) && decide (∀ x ∈ l, 0 ≤ x ∧ x ≤ 1000)
theorem pricesT_iff (l : List Int) (n : Int) : pricesT l n = true ↔ (l.length : Int) = n ∧ ∀ x ∈ l, 0 ≤ x ∧ x ≤ 1000 := by
  unfold pricesT; rw [Bool.and_eq_true, decide_eq_true_iff, decide_eq_true_iff]
def diagGo (r : List Int) : Nat → Nat → Bool
  | 0, _ => true
  | d + 1, j => if rd r ((j : Int) * 6 + j) = 0 then diagGo r d (j + 1) else false
def costT (a b r : List Int) : Bool := if pricesT a 6 = true then if pricesT b 6 = true then if pricesT r 36 = true then diagGo r 6 0 else false else false else false
def delT (a b r : List Int) (i : Int) : Int := if costT a b r = true ∧ 0 ≤ i ∧ i ≤ 5 then rd a i else 0
def insT (a b r : List Int) (i : Int) : Int := if costT a b r = true ∧ 0 ≤ i ∧ i ≤ 5 then rd b i else 0
def relT (a b r : List Int) (i j : Int) : Int := if costT a b r = true ∧ (0 ≤ i ∧ i ≤ 5) ∧ 0 ≤ j ∧ j ≤ 5 then rd r (i * 6 + j) else 0
theorem costT_len {a b r : List Int} (h : costT a b r = true) : a.length = 6 ∧ b.length = 6 ∧ r.length = 36 := by
  unfold costT at h
  by_cases h1 : pricesT a 6 = true
  · by_cases h2 : pricesT b 6 = true
    · by_cases h3 : pricesT r 36 = true
      · have := ((pricesT_iff a 6).1 h1).1
        have := ((pricesT_iff b 6).1 h2).1
        have := ((pricesT_iff r 36).1 h3).1
        omega
      · rw [if_pos h1, if_pos h2, if_neg h3] at h; cases h
    · rw [if_pos h1, if_neg h2] at h; cases h
  · rw [if_neg h1] at h; cases h

/-- Numbers, one behind the other. -/
def catV : List Int → ByteArray
  | [] => ⟨#[]⟩
  | x :: l => varS x ++ catV l
def putC (a b r : List Int) : ByteArray := if costT a b r = true then catV (a ++ b ++ r) else ⟨#[]⟩
/-- So many numbers from place a on, behind others. -/
def numsGo (s : ByteArray) : Nat → Nat → List Int → Option (List Int × Nat)
  | 0, a, acc => some (acc, a)
  | d + 1, a, acc => if (readVar (s.extract a s.size)).2 = 0 then none else numsGo s d (a + (readVar (s.extract a s.size)).2.toNat) (acc ++ [(readVar (s.extract a s.size)).1])
def getC (s : ByteArray) : List Int × List Int × List Int × Bool :=
  match numsGo s 48 0 [] with
  | none => ([], [], [], false)
  | some (l, a) => if a = s.size ∧ costT (l.take 6) ((l.take 12).drop 6) (l.drop 12) = true then (l.take 6, (l.take 12).drop 6, l.drop 12, true) else ([], [], [], false)
theorem numsGo_len (s : ByteArray) (d : Nat) : ∀ (a : Nat) (acc l : List Int) (e : Nat), a ≤ s.size → numsGo s d a acc = some (l, e) → l.length = acc.length + d ∧ e ≤ s.size := by
  induction d with
  | zero => intro a acc l e ha h; simp only [numsGo, Option.some.injEq, Prod.mk.injEq] at h; rw [← h.1, ← h.2]; exact ⟨rfl, ha⟩
  | succ d ih =>
    intro a acc l e ha h
    simp only [numsGo] at h
    have hr := readVar_range (s.extract a s.size)
    rw [tail_size] at hr
    by_cases c : (readVar (s.extract a s.size)).2 = 0
    · rw [if_pos c] at h; cases h
    · rw [if_neg c] at h
      have := ih _ _ l e (by omega) h
      rw [List.length_append, List.length_singleton] at this
      omega

/-! laws_big -/
theorem big_eq (c : List Int) : laws_big.f c = some (decide ((c.length : Int) > 1048576)) := rfl

/-! spec_l1Byte -/
theorem and255 (x : Int) : 0 ≤ Go.bits .and .i64 x 255 ∧ Go.bits .and .i64 x 255 ≤ 255 := by
  unfold Go.bits
  have h1 : (BitVec.ofInt 64 x &&& BitVec.ofInt 64 255).toNat ≤ 255 := by
    rw [BitVec.toNat_and]
    exact Nat.and_le_right
  have h2 : IntKind.i64.wrap ((BitVec.ofInt 64 x &&& BitVec.ofInt 64 255).toNat : Int) = ((BitVec.ofInt 64 x &&& BitVec.ofInt 64 255).toNat : Int) := wraps_i64 _ (by omega) (by omega)
  show 0 ≤ IntKind.i64.wrap ((BitVec.ofInt 64 x &&& BitVec.ofInt 64 255).toNat : Int) ∧ IntKind.i64.wrap ((BitVec.ofInt 64 x &&& BitVec.ofInt 64 255).toNat : Int) ≤ 255
  rw [h2]
  omega
theorem byte_ok (b : List Int) (hb : b.length ≤ 1048576) (i h : Int) (hi : 0 ≤ i ∧ i ≤ 1048576) : ∃ x i' h', spec_l1Byte.f b i h = some (x, i', h') ∧ (0 ≤ x ∧ x ≤ 255) ∧ (0 ≤ i' ∧ i' ≤ 1048576) := by
  unfold spec_l1Byte.f
  by_cases c : i < (b.length : Int)
  · rw [if_pos c, if_pos hi.1]
    refine ⟨_, _, _, rfl, and255 _, ?_⟩
    rw [w64 (by omega) (by omega)]; omega
  · rw [if_neg c]
    exact ⟨_, _, _, rfl, and255 _, hi⟩

/-! spec_l1Below -/
theorem below_ok (b : List Int) (hb : b.length ≤ 1048576) (i h : Int) (hi : 0 ≤ i ∧ i ≤ 1048576) (n : Int) : ∃ x i' h', spec_l1Below.f b i h n = some (x, i', h') ∧ (0 ≤ x ∧ (0 < n → x < n) ∧ (n ≤ 0 → x = 0)) ∧ (0 ≤ i' ∧ i' ≤ 1048576) := by
  unfold spec_l1Below.f
  by_cases c : n ≤ 0
  · rw [if_pos c]
    exact ⟨_, _, _, rfl, ⟨by omega, by omega, fun _ => rfl⟩, hi⟩
  · rw [if_neg c]
    by_cases c2 : n ≤ 256
    · rw [if_pos c2]
      obtain ⟨x, i1, h1, e1, hx, hi1⟩ := byte_ok b hb i h hi
      rw [e1]
      simp only [Option.bind_some]
      rw [if_neg (by omega)]
      refine ⟨_, _, _, rfl, ⟨?_, ?_, ?_⟩, hi1⟩
      · rw [Int.tmod_eq_emod_of_nonneg hx.1]; exact Int.emod_nonneg _ (by omega)
      · intro _; rw [Int.tmod_eq_emod_of_nonneg hx.1]; exact Int.emod_lt_of_pos _ (by omega)
      · intro g; omega
    · rw [if_neg c2]
      obtain ⟨x1, i1, h1, e1, hx1, hi1⟩ := byte_ok b hb i h hi
      rw [e1]
      simp only [Option.bind_some]
      obtain ⟨x2, i2, h2, e2, hx2, hi2⟩ := byte_ok b hb i1 h1 hi1
      rw [e2]
      simp only [Option.bind_some]
      obtain ⟨x3, i3, h3, e3, hx3, hi3⟩ := byte_ok b hb i2 h2 hi2
      rw [e3]
      simp only [Option.bind_some]
      obtain ⟨x4, i4, h4, e4, hx4, hi4⟩ := byte_ok b hb i3 h3 hi3
      rw [e4]
      simp only [Option.bind_some]
      rw [if_neg (by omega)]
      clear e1 e2 e3 e4
      have g1 : wrap64 (x1 * 16777216) = x1 * 16777216 := w64 (by omega) (by omega)
      have g2 : wrap64 (x2 * 65536) = x2 * 65536 := w64 (by omega) (by omega)
      have g3 : wrap64 (x3 * 256) = x3 * 256 := w64 (by omega) (by omega)
      rw [g1, g2, g3]
      clear g1 g2 g3
      have g4 : wrap64 (x1 * 16777216 + x2 * 65536) = x1 * 16777216 + x2 * 65536 := w64 (by omega) (by omega)
      rw [g4]
      clear g4
      have g5 : wrap64 (x1 * 16777216 + x2 * 65536 + x3 * 256) = x1 * 16777216 + x2 * 65536 + x3 * 256 := w64 (by omega) (by omega)
      rw [g5]
      clear g5
      have g6 : wrap64 (x1 * 16777216 + x2 * 65536 + x3 * 256 + x4) = x1 * 16777216 + x2 * 65536 + x3 * 256 + x4 := w64 (by omega) (by omega)
      rw [g6]
      clear g6
      have g7 : 0 ≤ x1 * 16777216 + x2 * 65536 + x3 * 256 + x4 := by omega
      refine ⟨_, _, _, rfl, ⟨?_, ?_, ?_⟩, hi4⟩
      · rw [Int.tmod_eq_emod_of_nonneg g7]; exact Int.emod_nonneg _ (by omega)
      · intro _; rw [Int.tmod_eq_emod_of_nonneg g7]; exact Int.emod_lt_of_pos _ (by omega)
      · intro g; omega

/-! spec_l2Label -/
theorem label_ok (b : List Int) (hb : b.length ≤ 1048576) (i h : Int) (hi : 0 ≤ i ∧ i ≤ 1048576) : ∃ x i' h', spec_l2Label.f b i h = some (x, i', h') ∧ (0 ≤ x ∧ x < 4) ∧ (0 ≤ i' ∧ i' ≤ 1048576) := by
  obtain ⟨x, i1, h1, e1, hx, hi1⟩ := below_ok b hb i h hi 4
  unfold spec_l2Label.f
  rw [e1]
  exact ⟨_, _, _, rfl, ⟨hx.1, hx.2.1 (by omega)⟩, hi1⟩

/-! spec_l1Once -/
theorem once_ok (b : List Int) (hb : b.length ≤ 1048576) (i h : Int) (hi : 0 ≤ i ∧ i ≤ 1048576) (n : Int) : ∃ x i' h', spec_l1Once.f b i h n = some (x, i', h') ∧ (0 ≤ i' ∧ i' ≤ 1048576) := by
  obtain ⟨x, i1, h1, e1, _, hi1⟩ := below_ok b hb i h hi n
  unfold spec_l1Once.f
  rw [e1]
  exact ⟨_, _, _, rfl, hi1⟩

/-! spec_l3Tree -/
theorem tree_l0 (b : List Int) (hb : b.length ≤ 1048576) (d : Nat) : ∀ (l : List S46) (i h : Int), 0 < l.length → l.length + d ≤ 1000 → (0 ≤ i ∧ i ≤ 1048576) →
    ∃ l' i' h', Ev (fun k => spec_l3Tree.l0 k l d b i h) (l', i', h') ∧ l'.length = l.length + d ∧ (0 ≤ i' ∧ i' ≤ 1048576) := by
  induction d with
  | zero =>
    intro l i h hl hd hi
    exact ⟨l, i, h, Ev.step (f := fun _ => some (l, i, h)) (fun k => by rw [spec_l3Tree.l0, if_neg (by decide)]) (Ev.now _), rfl, hi⟩
  | succ d ih =>
    intro l i h hl hd hi
    have c1 : ((d + 1 : Nat) : Int) > 0 := by omega
    have e1 : wrap64 ((l.length : Int) - 1) = (l.length : Int) - 1 := w64 (by omega) (by omega)
    have c2 : (0 : Int) ≤ (l.length : Int) - 1 := by omega
    have c3 : (l.length : Int) - 1 < (l.length : Int) := by omega
    have e2 : wrap64 (((d + 1 : Nat) : Int) - 1) = (d : Int) := by rw [w64 (by omega) (by omega)]; omega
    have c4 : l.length < 8796093022208 := by omega
    obtain ⟨x1, i1, h1, f1, hx1, hi1⟩ := below_ok b hb i h hi (wrap64 (((rd_T46 l ((l.length : Int) - 1)).f1) + 1))
    obtain ⟨x2, i2, h2, f2, hi2⟩ := once_ok b hb i1 h1 hi1 2
    obtain ⟨x3, i3, h3, f3, hx3, hi3⟩ := label_ok b hb i2 h2 hi2
    have go : ∀ x : S46, ∃ l' i' h', Ev (fun k => spec_l3Tree.l0 k (l ++ [x]) d b i3 h3) (l', i', h') ∧ l'.length = l.length + (d + 1) ∧ (0 ≤ i' ∧ i' ≤ 1048576) := by
      intro x
      obtain ⟨l', i', h', a1, a2, a3⟩ := ih (l ++ [x]) i3 h3 (by simp) (by simp; omega) hi3
      exact ⟨l', i', h', a1, by rw [a2]; simp; omega, a3⟩
    have key : ∃ x : S46, ∀ k, spec_l3Tree.l0 (k + 1) l ((d + 1 : Nat) : Int) b i h = spec_l3Tree.l0 k (l ++ [x]) d b i3 h3 := by
      cases x2 with
      | true =>
        by_cases g : (wrap64 (((rd_T46 l ((l.length : Int) - 1)).f1) + 1)) > 12
        · exact ⟨⟨x3, 1⟩, fun k => by rw [spec_l3Tree.l0, if_pos c1, e1, if_pos c2, if_pos c3, f1]; simp only [Option.bind_some]; rw [f2]; simp only [Option.bind_some, if_true]; rw [if_pos g, f3]; simp only [Option.bind_some]; rw [if_pos c4, e2]⟩
        · exact ⟨⟨x3, wrap64 (((rd_T46 l ((l.length : Int) - 1)).f1) + 1)⟩, fun k => by rw [spec_l3Tree.l0, if_pos c1, e1, if_pos c2, if_pos c3, f1]; simp only [Option.bind_some]; rw [f2]; simp only [Option.bind_some, if_true]; rw [if_neg g, f3]; simp only [Option.bind_some]; rw [if_pos c4, e2]⟩
      | false =>
        by_cases g : (wrap64 (1 + x1)) > 12
        · exact ⟨⟨x3, 1⟩, fun k => by rw [spec_l3Tree.l0, if_pos c1, e1, if_pos c2, if_pos c3, f1]; simp only [Option.bind_some]; rw [f2]; simp only [Option.bind_some, Bool.false_eq_true, if_false]; rw [if_pos g, f3]; simp only [Option.bind_some]; rw [if_pos c4, e2]⟩
        · exact ⟨⟨x3, wrap64 (1 + x1)⟩, fun k => by rw [spec_l3Tree.l0, if_pos c1, e1, if_pos c2, if_pos c3, f1]; simp only [Option.bind_some]; rw [f2]; simp only [Option.bind_some, Bool.false_eq_true, if_false]; rw [if_neg g, f3]; simp only [Option.bind_some]; rw [if_pos c4, e2]⟩
    obtain ⟨x, hx⟩ := key
    obtain ⟨l', i', h', a1, a2, a3⟩ := go x
    exact ⟨l', i', h', Ev.step hx a1, a2, a3⟩
theorem tree_ok (b : List Int) (hb : b.length ≤ 1048576) (i h : Int) (hi : 0 ≤ i ∧ i ≤ 1048576) (n : Nat) (hn : n ≤ 500) : ∃ l i' h', Ev (fun k => spec_l3Tree.f k b i h n) (l, i', h') ∧ (0 < l.length ∧ l.length ≤ n + 1) ∧ (0 ≤ i' ∧ i' ≤ 1048576) := by
  obtain ⟨x1, i1, h1, f1, hx1, hi1⟩ := label_ok b hb i h hi
  obtain ⟨x2, i2, h2, f2, hx2, hi2⟩ := below_ok b hb i1 h1 hi1 (n : Int)
  have hx : x2 ≤ n := by
    by_cases g : (0 : Int) < n
    · have := hx2.2.1 g; omega
    · have := hx2.2.2 (by omega); omega
  obtain ⟨m, rfl⟩ := Int.eq_ofNat_of_zero_le hx2.1
  obtain ⟨l', i', h', a1, a2, a3⟩ := tree_l0 b hb m [⟨x1, 0⟩] i2 h2 (by simp) (by simp; omega) hi2
  refine ⟨l', i', h', ?_, ⟨by rw [a2]; simp; omega, by rw [a2]; simp; omega⟩, a3⟩
  unfold spec_l3Tree.f
  rw [f1]
  simp only [Option.bind_some]
  rw [f2]
  exact a1

/-! spec_l1PickInt -/
theorem pickInt_ok (b : List Int) (hb : b.length ≤ 1048576) (i h : Int) (hi : 0 ≤ i ∧ i ≤ 1048576) (l : List Int) (hl : 0 < l.length) : ∃ x i' h', spec_l1PickInt.f b i h l = some (x, i', h') ∧ x ∈ l ∧ (0 ≤ i' ∧ i' ≤ 1048576) := by
  obtain ⟨x, i1, h1, e1, hx, hi1⟩ := below_ok b hb i h hi (l.length : Int)
  unfold spec_l1PickInt.f
  rw [e1]
  simp only [Option.bind_some]
  have hlt := hx.2.1 (by omega)
  rw [if_pos hx.1, if_pos hlt]
  refine ⟨_, _, _, rfl, ?_, hi1⟩
  unfold rd
  have hn : x.toNat < l.length := by omega
  rw [List.getD_eq_getElem?_getD, List.getElem?_eq_getElem hn]
  exact List.getElem_mem hn

/-! spec_l2Any -/
theorem any_ok (b : List Int) (hb : b.length ≤ 1048576) (i h : Int) (hi : 0 ≤ i ∧ i ≤ 1048576) : ∃ x i' h', spec_l2Any.f b i h = some (x, i', h') ∧ (-1 ≤ x ∧ x ≤ 6) ∧ (0 ≤ i' ∧ i' ≤ 1048576) := by
  obtain ⟨x, i1, h1, e1, hx, hi1⟩ := pickInt_ok b hb i h hi [0, 1, 2, 3, 5, 6, -1] (by decide)
  unfold spec_l2Any.f
  rw [e1]
  refine ⟨_, _, _, rfl, ?_, hi1⟩
  simp only [List.mem_cons, List.not_mem_nil, or_false] at hx
  omega

/-! spec_l3Any -/
theorem any_loop0 (b : List Int) (hb : b.length ≤ 1048576) (d : Nat) : ∀ (l : List S46) (i h : Int), l.length + d = 600 → (0 ≤ i ∧ i ≤ 1048576) → ∃ l' i' h', Ev (fun k => spec_l3Any.l0 k l b i h) (l', i', h') ∧ l'.length ≤ 600 ∧ (0 ≤ i' ∧ i' ≤ 1048576) := by
  induction d with
  | zero =>
    intro l i h hl hi
    obtain ⟨x1, i1, h1, f1, hx1, hi1⟩ := below_ok b hb i h hi 2
    have := hx1.2.1 (by omega)
    have e1 : wrap64 (24 + x1) = 24 + x1 := w64 (by omega) (by omega)
    exact ⟨l, i1, h1, Ev.step (f := fun _ => some (l, i1, h1)) (fun k => by rw [spec_l3Any.l0, f1]; simp only [Option.bind_some]; rw [e1, if_neg (by omega)]) (Ev.now _), by omega, hi1⟩
  | succ d ih =>
    intro l i h hl hi
    obtain ⟨x1, i1, h1, f1, hx1, hi1⟩ := below_ok b hb i h hi 2
    by_cases g : (l.length : Int) < wrap64 (24 + x1)
    · obtain ⟨l', i', h', a1, a2, a3⟩ := ih (l ++ [⟨1, 1⟩]) i1 h1 (by simp; omega) hi1
      exact ⟨l', i', h', Ev.step (fun k => by rw [spec_l3Any.l0, f1]; simp only [Option.bind_some]; rw [if_pos g, if_pos (by omega)]) a1, a2, a3⟩
    · exact ⟨l, i1, h1, Ev.step (f := fun _ => some (l, i1, h1)) (fun k => by rw [spec_l3Any.l0, f1]; simp only [Option.bind_some]; rw [if_neg g]) (Ev.now _), by omega, hi1⟩
theorem any_loop1 (b : List Int) (hb : b.length ≤ 1048576) (d : Nat) : ∀ (l : List S46) (i h : Int), l.length + d = 600 → (0 ≤ i ∧ i ≤ 1048576) → ∃ l' i' h', Ev (fun k => spec_l3Any.l1 k l b i h) (l', i', h') ∧ l'.length ≤ 600 ∧ (0 ≤ i' ∧ i' ≤ 1048576) := by
  induction d with
  | zero =>
    intro l i h hl hi
    obtain ⟨x1, i1, h1, f1, hx1, hi1⟩ := below_ok b hb i h hi 2
    have := hx1.2.1 (by omega)
    have e1 : wrap64 (13 + x1) = 13 + x1 := w64 (by omega) (by omega)
    exact ⟨l, i1, h1, Ev.step (f := fun _ => some (l, i1, h1)) (fun k => by rw [spec_l3Any.l1, f1]; simp only [Option.bind_some]; rw [e1, if_neg (by omega)]) (Ev.now _), by omega, hi1⟩
  | succ d ih =>
    intro l i h hl hi
    obtain ⟨x1, i1, h1, f1, hx1, hi1⟩ := below_ok b hb i h hi 2
    by_cases g : (l.length : Int) < wrap64 (13 + x1)
    · obtain ⟨l', i', h', a1, a2, a3⟩ := ih (l ++ [⟨0, (l.length : Int)⟩]) i1 h1 (by simp; omega) hi1
      exact ⟨l', i', h', Ev.step (fun k => by rw [spec_l3Any.l1, f1]; simp only [Option.bind_some]; rw [if_pos g, if_pos (by omega)]) a1, a2, a3⟩
    · exact ⟨l, i1, h1, Ev.step (f := fun _ => some (l, i1, h1)) (fun k => by rw [spec_l3Any.l1, f1]; simp only [Option.bind_some]; rw [if_neg g]) (Ev.now _), by omega, hi1⟩
theorem l3Any_ok (b : List Int) (hb : b.length ≤ 1048576) (i h : Int) (hi : 0 ≤ i ∧ i ≤ 1048576) (n : Nat) (hn : n ≤ 500) : ∃ l i' h', Ev (fun k => spec_l3Any.f k b i h n) (l, i', h') ∧ l.length ≤ 600 ∧ (0 ≤ i' ∧ i' ≤ 1048576) := by
  obtain ⟨t, i1, h1, f1, ht, hi1⟩ := tree_ok b hb i h hi n hn
  obtain ⟨x2, i2, h2, f2, hx2, hi2⟩ := below_ok b hb i1 h1 hi1 (t.length : Int)
  obtain ⟨x3, i3, h3, f3, hx3, hi3⟩ := below_ok b hb i2 h2 hi2 18
  have hlt := hx2.2.1 (by omega)
  suffices key : ∃ l i' h', Ev (fun k => if x3 = 0 then ((spec_l2Any.f b i3 h3).bind fun bt233 => (if 0 ≤ x2 then (if x2 < (t.length : Int) then (some ((t.set (x2 : Int).toNat (⟨bt233.1, (rd_T46 t x2).f1⟩ : S46)), bt233.2.1, bt233.2.2)) else (none)) else (none))) else (if x3 = 1 then (if 0 ≤ x2 then (if x2 < (t.length : Int) then ((spec_l1PickInt.f b i3 h3 (([(-1), 0, 1, 13, wrap64 (((rd_T46 t x2).f1) + 1)] : List Int))).bind fun bt241 => (some ((t.set (x2 : Int).toNat (⟨(rd_T46 t x2).f0, bt241.1⟩ : S46)), bt241.2.1, bt241.2.2))) else (none)) else (none)) else (if x3 = 2 then (if 1 ≤ (t.length : Int) then (some ((t.drop (1 : Int).toNat), i3, h3)) else (none)) else (if x3 = 3 then (spec_l3Any.l0 k t b i3 h3) else (if x3 = 4 then (spec_l3Any.l1 k (([(⟨0, 0⟩ : S46)] : List (S46))) b i3 h3) else (some (t, i3, h3))))))) (l, i', h') ∧ l.length ≤ 600 ∧ (0 ≤ i' ∧ i' ≤ 1048576) by
    obtain ⟨l, i', h', a1, a2, a3⟩ := key
    refine ⟨l, i', h', ?_, a2, a3⟩
    unfold spec_l3Any.f
    refine Ev.bind f1 ?_
    simp only [f2, f3, Option.bind_some]
    exact a1
  by_cases g0 : x3 = 0
  · obtain ⟨x4, i4, h4, f4, _, hi4⟩ := any_ok b hb i3 h3 hi3
    simp only [if_pos g0, f4, Option.bind_some, if_pos hx2.1, if_pos hlt]
    exact ⟨_, _, _, Ev.now _, by simp; omega, hi4⟩
  · simp only [if_neg g0]
    by_cases g1 : x3 = 1
    · obtain ⟨x4, i4, h4, f4, _, hi4⟩ := pickInt_ok b hb i3 h3 hi3 [(-1), 0, 1, 13, wrap64 (((rd_T46 t x2).f1) + 1)] (by simp)
      simp only [if_pos g1, f4, Option.bind_some, if_pos hx2.1, if_pos hlt]
      exact ⟨_, _, _, Ev.now _, by simp; omega, hi4⟩
    · simp only [if_neg g1]
      by_cases g2 : x3 = 2
      · simp only [if_pos g2, if_pos (show (1 : Int) ≤ (t.length : Int) by omega)]
        exact ⟨_, _, _, Ev.now _, by simp; omega, hi3⟩
      · simp only [if_neg g2]
        by_cases g3 : x3 = 3
        · simp only [if_pos g3]
          exact any_loop0 b hb (600 - t.length) t i3 h3 (by omega) hi3
        · simp only [if_neg g3]
          by_cases g4 : x3 = 4
          · simp only [if_pos g4]
            exact any_loop1 b hb 599 [⟨0, 0⟩] i3 h3 (by simp) hi3
          · simp only [if_neg g4]
            exact ⟨_, _, _, Ev.now _, by omega, hi3⟩

/-! spec_l1New -/
theorem new_l0 (c : List Int) (hc : c.length ≤ 1048576) (d : Nat) : ∀ (h : Int) (j : Nat), j + d = c.length → ∃ h', Ev (fun k => spec_l1New.l0 k c h j) (c, 0, h') := by
  induction d with
  | zero =>
    intro h j hj
    exact ⟨h, Ev.step (f := fun _ => some (c, 0, h)) (fun k => by rw [spec_l1New.l0, if_neg (by omega)]) (Ev.now _)⟩
  | succ d ih =>
    intro h j hj
    have c1 : (j : Int) < (c.length : Int) := by omega
    have c2 : (0 : Int) ≤ (j : Int) := by omega
    have e4 : wrap64 ((j : Int) + 1) = ((j + 1 : Nat) : Int) := by rw [w64 (by omega) (by omega)]; rfl
    by_cases g : (j : Int) < 4000
    · obtain ⟨h', a⟩ := ih (Go.bits .and .i64 (wrap64 ((wrap64 ((wrap64 (h * 131)) + (wrap64 (rd c j)))) + 7)) 1073741823) (j + 1) (by omega)
      exact ⟨h', Ev.step (fun k => by rw [spec_l1New.l0, if_pos c1, if_pos g, if_pos c2, e4]) a⟩
    · exact ⟨h, Ev.step (f := fun _ => some (c, 0, h)) (fun k => by rw [spec_l1New.l0, if_pos c1, if_neg g]) (Ev.now _)⟩
theorem new_ok (c : List Int) (hc : c.length ≤ 1048576) : ∃ h', Ev (fun k => spec_l1New.f k c) (c, 0, h') := new_l0 c hc c.length _ 0 (by omega)

/-! spec_DrawPutTree -/
theorem drawPutTree_ok (c : List Int) (hc : c.length ≤ 1048576) : ∃ l, Ev (fun k => spec_DrawPutTree.f k c) l ∧ l.length ≤ 600 := by
  obtain ⟨h, a⟩ := new_ok c hc
  obtain ⟨l, i', h', f1, hl, _⟩ := l3Any_ok c hc 0 h (by omega) 14 (by omega)
  exact ⟨l, Ev.bind a (Ev.bind f1 (Ev.now _)), hl⟩

/-! impl_within -/
theorem impl_within_eq (a b c : Int) : impl_within.f a b c = some (decide (b ≤ a ∧ a ≤ c)) := by
  unfold impl_within.f
  by_cases h : b ≤ a
  · rw [if_pos h]; simp [h]
  · rw [if_neg h]; simp [h]

/-! impl_LabelOk -/
theorem impl_LabelOk_eq (a : Int) : impl_LabelOk.f a = some (decide (0 ≤ a ∧ a ≤ 5)) := by
  unfold impl_LabelOk.f; simp only [impl_within_eq, Option.bind_some]

/-! impl_depthOk -/
theorem impl_depthOk_eq (l : List S46) (i : Nat) (hi : i < l.length) (hl : l.length ≤ 1048576) (hp : 0 < i → -1 ≤ dep l (i - 1) ∧ dep l (i - 1) ≤ 12) :
    impl_depthOk.f l (i : Int) = some (decide ((i = 0 → dep l i = 0) ∧ (0 < i → 1 ≤ dep l i ∧ dep l i ≤ dep l (i - 1) + 1))) := by
  unfold impl_depthOk.f
  by_cases h0 : i = 0
  · subst h0
    rw [if_pos (show ((0 : Nat) : Int) = 0 by rfl), if_pos (by omega)]
    have : rd_T46 l 0 = l.getD 0 z46 := rdN l 0
    rw [this]
    congr 1
    by_cases hz : dep l 0 = 0
    · rw [decide_eq_true ⟨fun _ => hz, fun h => by omega⟩]; show (dep l 0 == 0) = true; rw [hz]; rfl
    · rw [decide_eq_false (fun h => hz (h.1 rfl))]; show (dep l 0 == 0) = false; exact beq_eq_false_iff_ne.mpr hz
  · have hp := hp (by omega)
    have c3 : ¬ ((i : Int) = 0) := by omega
    have c4 : (0 : Int) ≤ (i : Int) := by omega
    have c5 : (i : Int) < (l.length : Int) := by omega
    have c6 : (0 : Int) ≤ ((i - 1 : Nat) : Int) := by omega
    have c7 : ((i - 1 : Nat) : Int) < (l.length : Int) := by omega
    have e3 : wrap64 ((i : Int) - 1) = ((i - 1 : Nat) : Int) := by rw [w64 (by omega) (by omega)]; omega
    rw [if_neg c3, if_pos c4, if_pos c5, e3, if_pos c6, if_pos c7, rdN, rdN]
    have e5 : wrap64 (dep l (i - 1) + 1) = dep l (i - 1) + 1 := w64 (by omega) (by omega)
    rw [e5, impl_within_eq]
    simp only [Option.bind_some]
    congr 1
    by_cases hz : 1 ≤ dep l i ∧ dep l i ≤ dep l (i - 1) + 1
    · rw [decide_eq_true hz, decide_eq_true ⟨fun h => absurd h h0, fun _ => hz⟩]
    · rw [decide_eq_false hz, decide_eq_false (fun h => hz (h.2 (by omega)))]

/-! impl_TreeOk -/
theorem impl_TreeOk_l0 (l : List S46) (hl : l.length ≤ 1048576) (hlen : 1 ≤ l.length ∧ l.length ≤ 24) (d : Nat) : ∀ i : Nat, i + d = l.length → (∀ j, j < i → nodeOk (lab l) (dep l) j) → Ev (fun k => impl_TreeOk.l0 k l l l.length i) (treeB (lab l) (dep l) l.length) := by
  induction d with
  | zero =>
    intro i hi hall
    refine Ev.step (fun k => by simp only [impl_TreeOk.l0]; rw [if_neg (by omega)]) ?_
    refine evSome ?_
    have e : i = l.length := by omega
    rw [treeB_all (by rw [← e]; exact hall), decide_eq_true hlen]
  | succ d ih =>
    intro i hi hall
    have hil : i < l.length := by omega
    have c1 : (i : Int) < (l.length : Int) := by omega
    have c2 : (0 : Int) ≤ (i : Int) := by omega
    refine Ev.step (fun k => by simp only [impl_TreeOk.l0]; rw [if_pos c1, if_pos c2, if_pos c1]) ?_
    have hd := impl_depthOk_eq l i hil hl (fun h0 => by
      have hp := hall (i - 1) (by omega)
      have := hp.2.2.1
      exact ⟨by omega, hp.2.2.2.1⟩)
    have e4 : wrap64 ((i : Int) + 1) = ((i + 1 : Nat) : Int) := by rw [w64 (by omega) (by omega)]; rfl
    simp only [impl_LabelOk_eq, impl_within_eq, hd, Option.bind_some, rdN, decide_eq_true_eq, e4]
    by_cases h1 : 0 ≤ lab l i ∧ lab l i ≤ 5
    · simp only [if_pos h1]
      by_cases h2 : 0 ≤ dep l i ∧ dep l i ≤ 12
      · simp only [if_pos h2]
        by_cases h3 : (i = 0 → dep l i = 0) ∧ (0 < i → 1 ≤ dep l i ∧ dep l i ≤ dep l (i - 1) + 1)
        · simp only [if_pos h3]
          refine ih (i + 1) (by omega) (fun j hj => ?_)
          by_cases hji : j < i
          · exact hall j hji
          · have : j = i := by omega
            subst this; exact ⟨h1.1, h1.2, h2.1, h2.2, h3.1, h3.2⟩
        · simp only [if_neg h3]
          exact evSome (treeB_no hil (fun h => h3 ⟨h.2.2.2.2.1, h.2.2.2.2.2⟩)).symm
      · simp only [if_neg h2]
        exact evSome (treeB_no hil (fun h => h2 ⟨h.2.2.1, h.2.2.2.1⟩)).symm
    · simp only [if_neg h1]
      exact evSome (treeB_no hil (fun h => h1 ⟨h.1, h.2.1⟩)).symm
theorem impl_TreeOk_ev (l : List S46) (hl : l.length ≤ 1048576) : Ev (fun k => impl_TreeOk.f k l) (treeB (lab l) (dep l) l.length) := by
  unfold impl_TreeOk.f
  simp only [impl_within_eq, Option.bind_some, decide_eq_true_eq]
  by_cases h : (1 : Int) ≤ (l.length : Int) ∧ (l.length : Int) ≤ 24
  · simp only [if_pos h]
    exact impl_TreeOk_l0 l hl (by omega) l.length 0 (by omega) (fun j hj => by omega)
  · simp only [if_neg h]
    exact evSome (treeB_len (by omega)).symm

/-! impl_Var -/
theorem impl_Var_l0 : ∀ (n : Nat) (acc : List Int), n < 9223372036854775808 → acc.length + (varB n).length ≤ 140737488355328 → Ev (fun k => impl_Var.l0 k n acc) (strOfNums (acc ++ varB n)) := by
  intro n
  induction n using Nat.strongRecOn with
  | _ n ih =>
    intro acc hn hl
    by_cases h : n < 128
    · rw [varB_lt h] at hl ⊢
      simp only [List.length_cons, List.length_nil] at hl
      refine Ev.step (fun k => by simp only [impl_Var.l0]; rw [if_neg (by omega), if_pos (by omega)]) ?_
      refine evSome ?_
      rw [Int.emod_eq_of_lt (by omega) (by omega)]
    · rw [varB_ge h] at hl ⊢
      simp only [List.length_cons] at hl
      refine Ev.step (fun k => by simp only [impl_Var.l0]; rw [if_pos (by omega), if_pos (by omega)]) ?_
      have e1 : (n : Int) / 128 = ((n / 128 : Nat) : Int) := by omega
      have e2 : Go.bits .or .u8 ((Go.bits .and .i64 (n : Int) 127) % 256) 128 = 128 + (n : Int) % 128 := by
        rw [and127_i64 (by omega) (by omega), Int.emod_eq_of_lt (a := (n : Int) % 128) (by omega) (by omega), or128_u8 (by omega) (by omega)]
      rw [e1, e2]
      have := ih (n / 128) (by omega) (acc ++ [128 + (n : Int) % 128]) (by omega) (by simp only [List.length_append, List.length_cons, List.length_nil]; omega)
      simpa only [List.append_assoc, List.cons_append, List.nil_append] using this
theorem impl_Var_ev (n : Int) : Ev (fun k => impl_Var.f k n) (varS n) := by
  unfold impl_Var.f varS
  simp only [impl_within_eq, Option.bind_some, decide_eq_true_eq]
  by_cases h : 0 ≤ n ∧ n ≤ 562949953421311
  · rw [if_pos h]
    simp only [if_pos h]
    obtain ⟨m, rfl⟩ := Int.eq_ofNat_of_zero_le h.1
    have hl := varB_len 7 m (by omega)
    have := impl_Var_l0 m [] (by omega) (by simp; omega)
    simpa only [List.nil_append, Int.toNat_natCast] using this
  · rw [if_neg h]
    simp only [if_neg h]
    exact Ev.now _

/-! impl_PutTree -/
theorem impl_PutTree_l0 (l : List S46) (hl : l.length ≤ 1048576) (d : Nat) : ∀ (j : Nat) (s : ByteArray), j + d = l.length → s.size ≤ 8 + 16 * j → Ev (fun k => impl_PutTree.l0 k s l l.length j) (putGo l d j s) := by
  induction d with
  | zero =>
    intro j s hj hs
    exact Ev.step (f := fun _ => some s) (fun k => by simp only [impl_PutTree.l0]; rw [if_neg (by omega)]) (Ev.now _)
  | succ d ih =>
    intro j s hj hs
    have c1 : (j : Int) < (l.length : Int) := by omega
    have c2 : (0 : Int) ≤ (j : Int) := by omega
    have v1 := varS_size (lab l j)
    have v2 := varS_size (dep l j)
    have e4 : wrap64 ((j : Int) + 1) = ((j + 1 : Nat) : Int) := by rw [w64 (by omega) (by omega)]; rfl
    have s1 : (varS (lab l j)).size + (varS (dep l j)).size ≤ 9223372036854775807 := by omega
    have s2 : s.size + (varS (lab l j) ++ varS (dep l j)).size ≤ 9223372036854775807 := by rw [ByteArray.size_append]; omega
    refine Ev.step (fun k => by rw [impl_PutTree.l0, if_pos c1, if_pos c2, if_pos c1, e4, rdN]) ?_
    refine Ev.bind (impl_Var_ev _) ?_
    refine Ev.bind (impl_Var_ev _) ?_
    simp only [if_pos s1, if_pos s2]
    simp only [putGo]
    exact ih (j + 1) _ (by omega) (by have v3 := varS_size (l.getD j z46).f0; have v4 := varS_size (l.getD j z46).f1; simp only [ByteArray.size_append]; omega)
theorem impl_PutTree_ev (l : List S46) (hl : l.length ≤ 1048576) : Ev (fun k => impl_PutTree.f k l) (putT l) := by
  unfold impl_PutTree.f putT
  refine Ev.bind (impl_TreeOk_ev l hl) ?_
  by_cases h : treeB (lab l) (dep l) l.length = true
  · rw [h]
    simp only [if_true]
    refine Ev.bind (impl_Var_ev _) ?_
    exact impl_PutTree_l0 l hl l.length 0 _ (by omega) (by have := varS_size (l.length : Int); omega)
  · rw [Bool.eq_false_iff.mpr h]
    simp only [Bool.false_eq_true, if_false]; exact Ev.now _

/-! impl_ReadVar -/
theorem p128 (i : Nat) (h : i ≤ 7) : (128 : Int) ^ i ≤ 562949953421312 := by
  have h1 : (128 : Nat) ^ i ≤ 128 ^ 7 := Nat.pow_le_pow_right (by decide) h
  have h2 : ((128 ^ i : Nat) : Int) ≤ ((128 ^ 7 : Nat) : Int) := by omega
  simpa using h2
theorem p128_pos (i : Nat) : (0 : Int) < 128 ^ i := Int.pow_pos (by decide)
theorem or_piece (b n : Int) (i : Nat) (hi : i ≤ 6) (h0 : 0 ≤ b) (h1 : b ≤ 255) (hn : 0 ≤ n) (hn1 : n < 128 ^ i) :
    Go.bits .or .i64 n (shl .i64 (wrap64 (Go.bits .and .u8 b 127)) (wrap64 (7 * (i : Int)))) = n + b % 128 * 128 ^ i ∧ n + b % 128 * 128 ^ i < 128 ^ (i + 1) := by
  have hp := p128 (i + 1) (by omega)
  have hq := p128_pos i
  have e7 : (2 : Int) ^ (7 * i) = 128 ^ i := by rw [Int.pow_mul]; rfl
  have hb : b % 128 * 128 ^ i ≤ 127 * 128 ^ i := Int.mul_le_mul_of_nonneg_right (by omega) (by omega)
  have hb0 : 0 ≤ b % 128 * 128 ^ i := Int.mul_nonneg (by omega) (by omega)
  have hmod : (b % 128 * 128 ^ i) % 2 ^ (7 * i) = 0 := by rw [e7]; exact Int.mul_emod_left _ _
  have hs : (128 : Int) ^ (i + 1) = 128 ^ i * 128 := Int.pow_succ ..
  rw [hs] at hp ⊢
  have e1 : shl .i64 (wrap64 (Go.bits .and .u8 b 127)) (wrap64 (7 * (i : Int))) = b % 128 * 128 ^ i := by
    unfold shl
    rw [and127_u8 h0 (by omega), w64 (n := b % 128) (by omega) (by omega), w64 (n := 7 * (i : Int)) (by omega) (by omega)]
    rw [show min (7 * (i : Int)).toNat IntKind.i64.bits = 7 * i by simp only [IntKind.bits]; omega, e7]
    generalize b % 128 * 128 ^ i = y at *
    exact wraps_i64 _ hb0 (by omega)
  rw [e1]
  refine ⟨or_low (7 * i) hn (by rw [e7]; exact hn1) hb0 ?_ hmod (by omega), ?_⟩
  · generalize b % 128 * 128 ^ i = y at *; omega
  · generalize b % 128 * 128 ^ i = y at *; omega
theorem impl_ReadVar_l0 (s : ByteArray) (m : Nat) (hm : m ≤ 7) (hs : m ≤ s.size) (d : Nat) : ∀ (i : Nat) (n : Int), i + d = m → 0 ≤ n → n < 128 ^ i → Ev (fun k => impl_ReadVar.l0 k s n m i) (rvGo s d i n) := by
  induction d with
  | zero =>
    intro i n hi h0 h1
    exact Ev.step (f := fun _ => some (0, 0)) (fun k => by simp only [impl_ReadVar.l0]; rw [if_neg (by omega)]) (Ev.now _)
  | succ d ih =>
    intro i n hi h0 h1
    have hb := bt_u8 s (i : Int)
    obtain ⟨e1, hlt⟩ := or_piece (bt s i) n i (by omega) hb.1 hb.2 h0 h1
    have hge : 0 ≤ n + bt s i % 128 * 128 ^ i := by
      have := Int.mul_nonneg (show 0 ≤ bt s (i : Int) % 128 by omega) (Int.le_of_lt (p128_pos i))
      omega
    have hp := p128 (i + 1) (by omega)
    have hmax : ¬ (n + bt s i % 128 * 128 ^ i > 562949953421311) := by
      generalize n + bt s i % 128 * 128 ^ i = y at *
      generalize (128 : Int) ^ (i + 1) = z at *
      omega
    have c1 : (i : Int) < (m : Int) := by omega
    have c2 : (0 : Int) ≤ (i : Int) := by omega
    have c3 : (i : Int) < (s.size : Int) := by omega
    have hn := ih (i + 1) (n + bt s i % 128 * 128 ^ i) (by omega) hge hlt
    have c5 : (0 : Int) ≤ wrap64 (7 * (i : Int)) := by rw [w64 (by omega) (by omega)]; omega
    have e4 : wrap64 ((i : Int) + 1) = (i : Int) + 1 := w64 (by omega) (by omega)
    refine Ev.step (fun k => by simp only [impl_ReadVar.l0]; rw [e1, e4, if_pos c1, if_pos c2, if_pos c3, if_pos c5]) ?_
    simp only [rvGo]
    by_cases hlow : bt s (i : Int) < 128
    · simp only [if_pos hlow, if_neg hmax]
      by_cases hpos : (i : Int) > 0
      · simp only [if_pos hpos]
        by_cases hz : bt s (i : Int) = 0
        · simp only [if_pos hz]
          rw [if_pos ⟨Int.natCast_pos.mp hpos, hz⟩]; exact Ev.now _
        · simp only [if_neg hz]
          rw [if_neg (fun h => hz h.2)]; exact Ev.now _
      · simp only [if_neg hpos]
        rw [if_neg (fun h => hpos (Int.natCast_pos.mpr h.1))]; exact Ev.now _
    · simp only [if_neg hlow]
      exact hn
theorem impl_ReadVar_ev (s : ByteArray) (hs : s.size ≤ 140737488351232) : Ev (fun k => impl_ReadVar.f k s) (readVar s) := by
  unfold impl_ReadVar.f readVar
  have e : mn (s.size : Int) 7 = ((min s.size 7 : Nat) : Int) := by
    unfold mn; by_cases h : (7 : Int) < s.size
    · rw [if_pos h]; omega
    · rw [if_neg h]; omega
  rw [e]
  exact impl_ReadVar_l0 s _ (by omega) (by omega) (min s.size 7) 0 0 (by omega) (by omega) (by simp)

/-! impl_GetTree -/
theorem dep_app (acc : List S46) (x : S46) (j : Nat) (h : j < acc.length) : dep (acc ++ [x]) j = dep acc j := by
  unfold dep
  rw [List.getD_eq_getElem?_getD, List.getElem?_append_left h, ← List.getD_eq_getElem?_getD]
theorem dep_last (acc : List S46) (x : S46) : dep (acc ++ [x]) acc.length = x.f1 := by
  unfold dep; simp [List.getD_eq_getElem?_getD]
theorem impl_GetTree_l0 (s : ByteArray) (hs : s.size ≤ 1048576) (n : Nat) (hn : n ≤ 24) (d : Nat) : ∀ (i a : Nat) (acc : List S46), i + d = n → a ≤ s.size → acc.length = i → (∀ j, j < i → 0 ≤ dep acc j ∧ dep acc j ≤ 12) →
    Ev (fun k => impl_GetTree.l0 k acc (s.extract a s.size) n i) (getGo s d i a acc) := by
  induction d with
  | zero =>
    intro i a acc hi ha hl hd
    refine Ev.step (fun k => by rw [impl_GetTree.l0, if_neg (by omega)]) ?_
    simp only [getGo]
    by_cases h : a = s.size
    · simp only [if_pos h, if_pos ((tail_nil s a ha).2 h)]; exact Ev.now _
    · simp only [if_neg h, if_neg (fun e => h ((tail_nil s a ha).1 e))]; exact Ev.now _
  | succ d ih =>
    intro i a acc hi ha hl hd
    have c0 : (i : Int) < (n : Int) := by omega
    have e4 : wrap64 ((i : Int) + 1) = ((i + 1 : Nat) : Int) := by rw [w64 (by omega) (by omega)]; rfl
    have hlen : acc.length < 8796093022208 := by omega
    have hr := readVar_range (s.extract a s.size)
    have hts : (s.extract a s.size).size ≤ 140737488351232 := by rw [tail_size]; omega
    have key : ∃ L R, ∃ C : Int, Ev (fun k => impl_getNode.f k acc (s.extract a s.size)) (L, R, C) ∧ (if C = 0 then Ev (fun k => impl_GetTree.l0 k L R n ((i + 1 : Nat) : Int)) (getGo s (d + 1) i a acc) else (([], C) = getGo s (d + 1) i a acc)) := by
      simp only [getGo]
      by_cases h1 : (readVar (s.extract a s.size)).2 = 0
      · refine ⟨acc, s.extract a s.size, 1, ?_, ?_⟩
        · unfold impl_getNode.f
          refine Ev.bind (impl_ReadVar_ev _ hts) ?_
          simp only [if_pos h1]; exact Ev.now _
        · rw [if_neg (by decide), if_pos h1]
      · rw [if_neg h1]
        by_cases h2 : 0 ≤ (readVar (s.extract a s.size)).1 ∧ (readVar (s.extract a s.size)).1 ≤ 5
        · rw [if_neg (show ¬ ¬ (0 ≤ (readVar (s.extract a s.size)).1 ∧ (readVar (s.extract a s.size)).1 ≤ 5) from fun h => h h2)]
          have hq := readVar_range (s.extract (a + (readVar (s.extract a s.size)).2.toNat) s.size)
          have hcut : (s.extract a s.size).extract (readVar (s.extract a s.size)).2.toNat (s.extract a s.size).size = s.extract (a + (readVar (s.extract a s.size)).2.toNat) s.size := tail_tail s a _ ha
          have hat : a + (readVar (s.extract a s.size)).2.toNat ≤ s.size := by rw [tail_size] at hr; omega
          have hts2 : (s.extract (a + (readVar (s.extract a s.size)).2.toNat) s.size).size ≤ 140737488351232 := by rw [tail_size]; omega
          have start : ∀ (T : List S46 × ByteArray × Int), Ev (fun k => if (readVar (s.extract (a + (readVar (s.extract a s.size)).2.toNat) s.size)).2 = 0 then (some (acc ++ [(⟨(readVar (s.extract a s.size)).1, (readVar (s.extract (a + (readVar (s.extract a s.size)).2.toNat) s.size)).1⟩ : S46)], s.extract (a + (readVar (s.extract a s.size)).2.toNat) s.size, (1 : Int))) else (if (readVar (s.extract (a + (readVar (s.extract a s.size)).2.toNat) s.size)).1 > 12 then (some (acc ++ [⟨(readVar (s.extract a s.size)).1, (readVar (s.extract (a + (readVar (s.extract a s.size)).2.toNat) s.size)).1⟩], s.extract (a + (readVar (s.extract a s.size)).2.toNat) s.size, 4)) else ((impl_depthOk.f (acc ++ [⟨(readVar (s.extract a s.size)).1, (readVar (s.extract (a + (readVar (s.extract a s.size)).2.toNat) s.size)).1⟩]) i).bind fun t176 => (if t176 = true then (some (acc ++ [⟨(readVar (s.extract a s.size)).1, (readVar (s.extract (a + (readVar (s.extract a s.size)).2.toNat) s.size)).1⟩], s.extract (a + (readVar (s.extract a s.size)).2.toNat + (readVar (s.extract (a + (readVar (s.extract a s.size)).2.toNat) s.size)).2.toNat) s.size, 0)) else (some (acc ++ [⟨(readVar (s.extract a s.size)).1, (readVar (s.extract (a + (readVar (s.extract a s.size)).2.toNat) s.size)).1⟩], s.extract (a + (readVar (s.extract a s.size)).2.toNat) s.size, 5)))))) T → Ev (fun k => impl_getNode.f k acc (s.extract a s.size)) T := by
            intro T hT
            unfold impl_getNode.f
            refine Ev.bind (impl_ReadVar_ev _ hts) ?_
            simp only [if_neg h1, impl_LabelOk_eq, Option.bind_some, decide_eq_true_eq, if_pos h2, if_pos hr.2.1, if_pos hr.2.2, hcut]
            refine Ev.bind (impl_ReadVar_ev _ hts2) ?_
            have el : wrap64 (((acc ++ [(⟨(readVar (s.extract a s.size)).1, (readVar (s.extract (a + (readVar (s.extract a s.size)).2.toNat) s.size)).1⟩ : S46)]).length : Int) - 1) = (i : Int) := by
              rw [List.length_append, List.length_singleton, w64 (by omega) (by omega)]; omega
            have hcut2 := tail_tail s (a + (readVar (s.extract a s.size)).2.toNat) (readVar (s.extract (a + (readVar (s.extract a s.size)).2.toNat) s.size)).2.toNat hat
            simp only [if_pos hlen, Option.bind_some, el, if_pos hq.2.1, if_pos hq.2.2, hcut2]
            exact hT
          generalize (readVar (s.extract a s.size)).1 = lb at *
          generalize a + (readVar (s.extract a s.size)).2.toNat = a2 at *
          by_cases h3 : (readVar (s.extract a2 s.size)).2 = 0
          · exact ⟨_, _, 1, start _ (by simp only [if_pos h3]; exact Ev.now _), by rw [if_neg (by decide), if_pos h3]⟩
          · rw [if_neg h3]
            by_cases h4 : (readVar (s.extract a2 s.size)).1 > 12
            · exact ⟨_, _, 4, start _ (by simp only [if_neg h3, if_pos h4]; exact Ev.now _), by rw [if_neg (by decide), if_pos h4]⟩
            · rw [if_neg h4]
              have hdq : ∀ j, j < i + 1 → 0 ≤ dep (acc ++ [(⟨lb, (readVar (s.extract a2 s.size)).1⟩ : S46)]) j ∧ dep (acc ++ [(⟨lb, (readVar (s.extract a2 s.size)).1⟩ : S46)]) j ≤ 12 := fun j hj => by
                by_cases hji : j < i
                · rw [dep_app _ _ _ (by omega)]; exact hd j hji
                · have : j = acc.length := by omega
                  subst this
                  rw [dep_last]
                  exact ⟨hq.1, by show (readVar (s.extract a2 s.size)).1 ≤ 12; omega⟩
              have hdo := impl_depthOk_eq (acc ++ [(⟨lb, (readVar (s.extract a2 s.size)).1⟩ : S46)]) i (by simp; omega) (by simp; omega) (fun h0 => by have := hdq (i - 1) (by omega); exact ⟨by omega, this.2⟩)
              have hlast : dep (acc ++ [(⟨lb, (readVar (s.extract a2 s.size)).1⟩ : S46)]) i = (readVar (s.extract a2 s.size)).1 := by rw [← hl]; exact dep_last _ _
              have hprev : 0 < i → dep (acc ++ [(⟨lb, (readVar (s.extract a2 s.size)).1⟩ : S46)]) (i - 1) = dep acc (i - 1) := fun h0 => dep_app _ _ _ (by omega)
              have hiff : ((i = 0 → dep (acc ++ [(⟨lb, (readVar (s.extract a2 s.size)).1⟩ : S46)]) i = 0) ∧ (0 < i → 1 ≤ dep (acc ++ [(⟨lb, (readVar (s.extract a2 s.size)).1⟩ : S46)]) i ∧ dep (acc ++ [(⟨lb, (readVar (s.extract a2 s.size)).1⟩ : S46)]) i ≤ dep (acc ++ [(⟨lb, (readVar (s.extract a2 s.size)).1⟩ : S46)]) (i - 1) + 1)) ↔ shapeP acc i (readVar (s.extract a2 s.size)).1 := by
                unfold shapeP
                rw [hlast]
                by_cases h0 : 0 < i
                · rw [hprev h0]
                · constructor
                  · rintro ⟨x, y⟩; exact ⟨x, fun h => absurd h h0⟩
                  · rintro ⟨x, y⟩; exact ⟨x, fun h => absurd h h0⟩
              by_cases h5 : shapeP acc i (readVar (s.extract a2 s.size)).1
              · rw [if_neg (fun h => h h5)]
                rw [decide_eq_true (hiff.2 h5)] at hdo
                refine ⟨_, _, 0, start _ (by simp only [if_neg h3, if_neg h4, hdo, Option.bind_some, if_true]; exact Ev.now _), ?_⟩
                rw [if_pos rfl]
                have hq2 := hq.2.2
                rw [tail_size] at hq2
                exact ih (i + 1) _ _ (by omega) (by omega) (by simp; omega) hdq
              · rw [if_pos h5]
                rw [decide_eq_false (fun h => h5 (hiff.1 h))] at hdo
                exact ⟨_, _, 5, start _ (by simp only [if_neg h3, if_neg h4, hdo, Option.bind_some, Bool.false_eq_true, if_false]; exact Ev.now _), by rw [if_neg (by decide)]⟩
        · rw [if_pos h2]
          refine ⟨acc, s.extract a s.size, 3, ?_, ?_⟩
          · unfold impl_getNode.f
            refine Ev.bind (impl_ReadVar_ev _ hts) ?_
            simp only [if_neg h1, impl_LabelOk_eq, Option.bind_some, decide_eq_true_eq, if_neg h2]; exact Ev.now _
          · rw [if_neg (by decide)]
    obtain ⟨Lk, Rk, C, hev, hC⟩ := key
    refine Ev.step (fun k => by rw [impl_GetTree.l0, if_pos c0, e4]) ?_
    refine Ev.bind hev ?_
    by_cases h : C = 0
    · rw [if_pos h] at hC
      simp only [if_pos h]; exact hC
    · rw [if_neg h] at hC
      simp only [if_neg h]; exact evSome hC
theorem impl_GetTree_ev (s : ByteArray) (hs : s.size ≤ 1048576) : Ev (fun k => impl_GetTree.f k s) (getT s) := by
  unfold impl_GetTree.f getT
  refine Ev.bind (impl_ReadVar_ev s (by omega)) ?_
  have hr := readVar_range s
  by_cases h1 : (readVar s).2 = 0
  · simp only [if_pos h1]; exact Ev.now _
  · simp only [if_neg h1, impl_within_eq, Option.bind_some, decide_eq_true_eq]
    by_cases h2 : 1 ≤ (readVar s).1 ∧ (readVar s).1 ≤ 24
    · simp only [if_pos h2, if_neg (show ¬ ¬ (1 ≤ (readVar s).1 ∧ (readVar s).1 ≤ 24) from fun h => h h2), if_pos hr.2.1, if_pos hr.2.2]
      have := impl_GetTree_l0 s hs (readVar s).1.toNat (by omega) (readVar s).1.toNat 0 (readVar s).2.toNat [] (by omega) (by omega) rfl (fun j hj => by omega)
      rw [Int.toNat_of_nonneg hr.1] at this
      exact this
    · simp only [if_neg h2, if_pos h2]; exact Ev.now _

/-! spec_l1In -/
theorem spec_l1In_eq (a b c : Int) : spec_l1In.f a b c = some (decide (b ≤ a ∧ a ≤ c)) := by
  unfold spec_l1In.f
  by_cases h : b ≤ a
  · rw [if_pos h]; simp [h]
  · rw [if_neg h]; simp [h]

/-! spec_LabelOk -/
theorem spec_LabelOk_eq (a : Int) : spec_LabelOk.f a = some (decide (0 ≤ a ∧ a ≤ 5)) := by
  unfold spec_LabelOk.f; simp only [spec_l1In_eq, Option.bind_some]

/-! spec_TreeOk -/
theorem spec_TreeOk_l0 (l : List S46) (hl : l.length ≤ 1048576) (d : Nat) : ∀ i : Nat, i + d = l.length → (∀ j, j < i → nodeOk (lab l) (dep l) j) → Ev (fun k => spec_TreeOk.l0 k l i) (treeB (lab l) (dep l) l.length) := by
  induction d with
  | zero =>
    intro i hi hall
    refine Ev.step (fun k => by simp only [spec_TreeOk.l0]; rw [if_neg (by omega)]) ?_
    simp only [spec_l1In_eq, Option.bind_some]
    refine evSome ?_
    have e : i = l.length := by omega
    rw [treeB_all (by rw [← e]; exact hall)]
    congr 1; simp; omega
  | succ d ih =>
    intro i hi hall
    have hil : i < l.length := by omega
    have c1 : (i : Int) < (l.length : Int) := by omega
    have c2 : (0 : Int) ≤ (i : Int) := by omega
    refine Ev.step (fun k => by simp only [spec_TreeOk.l0]; rw [if_pos c1, if_pos c2]) ?_
    simp only [spec_LabelOk_eq, spec_l1In_eq, Option.bind_some, rdN, decide_eq_true_eq]
    by_cases h1 : 0 ≤ lab l i ∧ lab l i ≤ 5
    · simp only [if_pos h1]
      by_cases h2 : 0 ≤ dep l i ∧ dep l i ≤ 12
      · simp only [if_pos h2]
        by_cases h0 : i = 0
        · subst h0
          by_cases hz : dep l 0 = 0
          · have hb : ((dep l 0 == 0) != (((0 : Nat) : Int) == 0)) = false := by rw [hz]; rfl
            have hn := ih 1 (by omega) (fun j hj => by
              have : j = 0 := by omega
              subst this; exact ⟨h1.1, h1.2, h2.1, h2.2, fun _ => hz, fun h => by omega⟩)
            have e4 : wrap64 (((0 : Nat) : Int) + 1) = ((1 : Nat) : Int) := by rw [w64 (by omega) (by omega)]; rfl
            simp only [hb, Bool.false_eq_true, if_false, e4, if_neg (show ¬ ((0 : Nat) : Int) > 0 by omega)]
            exact hn
          · have hb : ((dep l 0 == 0) != (((0 : Nat) : Int) == 0)) = true := by simp [hz]
            simp only [hb, if_true]
            refine evSome (treeB_no hil ?_).symm
            intro h; exact hz (h.2.2.2.2.1 rfl)
        · have hiz : ((i : Int) == 0) = false := by simp; omega
          by_cases hz : dep l i = 0
          · have hb : ((dep l i == 0) != ((i : Int) == 0)) = true := by rw [hiz, hz]; rfl
            simp only [hb, if_true]
            refine evSome (treeB_no hil ?_).symm
            intro h; have := h.2.2.2.2.2 (by omega); omega
          · have hb : ((dep l i == 0) != ((i : Int) == 0)) = false := by rw [hiz]; simp [hz]
            have hp := hall (i - 1) (by omega)
            have hpr : 0 ≤ dep l (i - 1) ∧ dep l (i - 1) ≤ 12 := ⟨hp.2.2.1, hp.2.2.2.1⟩
            have hn : (1 ≤ dep l i ∧ dep l i ≤ dep l (i - 1) + 1) → _ := fun hd => ih (i + 1) (by omega) (fun j hj => by
              by_cases hji : j < i
              · exact hall j hji
              · have : j = i := by omega
                subst this; exact ⟨h1.1, h1.2, h2.1, h2.2, fun h => by omega, fun _ => hd⟩)
            have e3 : wrap64 ((i : Int) - 1) = ((i - 1 : Nat) : Int) := by rw [w64 (by omega) (by omega)]; omega
            have e4 : wrap64 ((i : Int) + 1) = ((i + 1 : Nat) : Int) := by rw [w64 (by omega) (by omega)]; rfl
            have c5 : (0 : Int) ≤ ((i - 1 : Nat) : Int) := by omega
            have c6 : ((i - 1 : Nat) : Int) < (l.length : Int) := by omega
            have e5 : wrap64 (dep l (i - 1) + 1) = dep l (i - 1) + 1 := w64 (by omega) (by omega)
            simp only [hb, Bool.false_eq_true, if_false, e3, e4, if_pos (show (i : Int) > 0 by omega), if_pos c5, if_pos c6, rdN, e5]
            by_cases hd : dep l i > dep l (i - 1) + 1
            · simp only [if_pos hd]
              refine evSome (treeB_no hil ?_).symm
              intro h; have := (h.2.2.2.2.2 (by omega)).2; omega
            · simp only [if_neg hd]
              exact hn ⟨by omega, by omega⟩
      · simp only [if_neg h2]
        exact evSome (treeB_no hil (fun h => h2 ⟨h.2.2.1, h.2.2.2.1⟩)).symm
    · simp only [if_neg h1]
      exact evSome (treeB_no hil (fun h => h1 ⟨h.1, h.2.1⟩)).symm
theorem spec_TreeOk_ev (l : List S46) (hl : l.length ≤ 1048576) : Ev (fun k => spec_TreeOk.f k l) (treeB (lab l) (dep l) l.length) :=
  spec_TreeOk_l0 l hl l.length 0 (by omega) (fun j hj => by omega)

/-! spec_SameTree -/
theorem spec_SameTree_l0 (a b : List S46) (ha : a.length ≤ 1048576) (hb : b.length = a.length) (d : Nat) : ∀ j : Nat, j + d = a.length → Ev (fun k => spec_SameTree.l0 k a b j) (sameGo a b d j) := by
  induction d with
  | zero =>
    intro j hj
    exact Ev.step (f := fun _ => some true) (fun k => by simp only [spec_SameTree.l0]; rw [if_neg (by omega)]) (Ev.now _)
  | succ d ih =>
    intro j hj
    have c1 : (j : Int) < (a.length : Int) := by omega
    have c2 : (0 : Int) ≤ (j : Int) := by omega
    have c3 : (j : Int) < (b.length : Int) := by omega
    have e4 : wrap64 ((j : Int) + 1) = ((j + 1 : Nat) : Int) := by rw [w64 (by omega) (by omega)]; rfl
    refine Ev.step (fun k => by simp only [spec_SameTree.l0]; rw [if_pos c1, if_pos c2, if_pos c3, e4, rdN, rdN]) ?_
    simp only [sameGo]
    by_cases h : (!((a.getD j z46).f0 == (b.getD j z46).f0) || (!((a.getD j z46).f1 == (b.getD j z46).f1))) = true
    · simp only [if_pos h]; exact Ev.now _
    · simp only [if_neg h]; exact ih (j + 1) (by omega)

theorem spec_SameTree_ev (a b : List S46) (ha : a.length ≤ 1048576) : Ev (fun k => spec_SameTree.f k a b) (sameT a b) := by
  unfold spec_SameTree.f sameT
  by_cases h : a.length = b.length
  · rw [if_pos h]
    simp only [if_pos (show (a.length : Int) = (b.length : Int) by omega)]
    exact spec_SameTree_l0 a b ha h.symm a.length 0 (by omega)
  · rw [if_neg h]
    simp only [if_neg (show ¬ (a.length : Int) = (b.length : Int) by omega)]; exact Ev.now _

/-! spec_l1Text -/
theorem text_l0 (b : List Int) (hb : b.length ≤ 1048576) (st : Int) (d : Nat) : ∀ (acc : List Int) (i h : Int), acc.length ≤ 1000 - d → d ≤ 1000 → (0 ≤ i ∧ i ≤ 1048576) → ∃ s i' h', Ev (fun k => spec_l1Text.l0 k acc st d b i h) (s, i', h') ∧ s.size ≤ 1000 ∧ (0 ≤ i' ∧ i' ≤ 1048576) := by
  induction d with
  | zero =>
    intro acc i h ha _ hi
    have c0 : ¬ (((0 : Nat) : Int) > 0) := by decide
    exact ⟨_, i, h, Ev.step (f := fun _ => some (strOfNums acc, i, h)) (fun k => by rw [spec_l1Text.l0, if_neg c0]) (Ev.now _), by rw [strOfNums_size]; omega, hi⟩
  | succ d ih =>
    intro acc i h ha hd hi
    obtain ⟨x1, i1, h1, f1, _, hi1⟩ := byte_ok b hb i h hi
    have c0 : (((d + 1 : Nat) : Int) > 0) := by omega
    have e1 : wrap64 (((d + 1 : Nat) : Int) - 1) = ((d : Nat) : Int) := by rw [w64 (by omega) (by omega)]; omega
    have c1 : acc.length < 140737488355328 := by omega
    have key : ∀ c : Int, ∃ s i' h', Ev (fun k => spec_l1Text.l0 k (acc ++ [c]) st d b i1 h1) (s, i', h') ∧ s.size ≤ 1000 ∧ (0 ≤ i' ∧ i' ≤ 1048576) := fun c => ih (acc ++ [c]) i1 h1 (by rw [List.length_append, List.length_singleton]; omega) (by omega) hi1
    by_cases s1 : st = 1
    · by_cases s2 : st = 2
      · obtain ⟨s, i', h', g1, g2, g3⟩ := key ((wrap64 (97 + (Int.tmod (Int.tmod x1 2) 4))) % 256)
        exact ⟨s, i', h', Ev.step (fun k => by rw [spec_l1Text.l0, if_pos c0, f1, Option.bind_some, if_pos s1, if_pos s2, if_pos c1, e1]) g1, g2, g3⟩
      · obtain ⟨s, i', h', g1, g2, g3⟩ := key ((Int.tmod x1 2) % 256)
        exact ⟨s, i', h', Ev.step (fun k => by rw [spec_l1Text.l0, if_pos c0, f1, Option.bind_some, if_pos s1, if_neg s2, if_pos c1, e1]) g1, g2, g3⟩
    · by_cases s2 : st = 2
      · obtain ⟨s, i', h', g1, g2, g3⟩ := key ((wrap64 (97 + (Int.tmod x1 4))) % 256)
        exact ⟨s, i', h', Ev.step (fun k => by rw [spec_l1Text.l0, if_pos c0, f1, Option.bind_some, if_neg s1, if_pos s2, if_pos c1, e1]) g1, g2, g3⟩
      · obtain ⟨s, i', h', g1, g2, g3⟩ := key (x1 % 256)
        exact ⟨s, i', h', Ev.step (fun k => by rw [spec_l1Text.l0, if_pos c0, f1, Option.bind_some, if_neg s1, if_neg s2, if_pos c1, e1]) g1, g2, g3⟩
theorem text_ok (b : List Int) (hb : b.length ≤ 1048576) (i h : Int) (hi : 0 ≤ i ∧ i ≤ 1048576) (n : Int) (h0 : 0 ≤ n) (hn : n ≤ 900) : ∃ s i' h', Ev (fun k => spec_l1Text.f k b i h n) (s, i', h') ∧ s.size ≤ 1000 ∧ (0 ≤ i' ∧ i' ≤ 1048576) := by
  obtain ⟨x1, i1, h1, f1, _, hi1⟩ := below_ok b hb i h hi 4
  have e1 : wrap64 (n + 1) = n + 1 := w64 (by omega) (by omega)
  obtain ⟨x2, i2, h2, f2, hx2, hi2⟩ := below_ok b hb i1 h1 hi1 (wrap64 (n + 1))
  rw [e1] at hx2
  have hlt := hx2.2.1 (by omega)
  obtain ⟨d, rfl⟩ := Int.eq_ofNat_of_zero_le hx2.1
  obtain ⟨s, i', h', g1, g2, g3⟩ := text_l0 b hb x1 d [] i2 h2 (by simp) (by omega) hi2
  refine ⟨s, i', h', ?_, g2, g3⟩
  unfold spec_l1Text.f
  simp only [f1, f2, Option.bind_some]
  exact g1

/-! spec_l1Spoil -/
theorem ext_size (a : ByteArray) (i j : Nat) : (a.extract i j).size ≤ a.size := by rw [ByteArray.size_extract]; omega
theorem spoil_ok (b : List Int) (hb : b.length ≤ 1048576) (i h : Int) (hi : 0 ≤ i ∧ i ≤ 1048576) (a : ByteArray) (ha : a.size ≤ 1000000) : ∃ s i' h', Ev (fun k => spec_l1Spoil.f k b i h a) (s, i', h') ∧ s.size ≤ 2000 + 2 * a.size ∧ (0 ≤ i' ∧ i' ≤ 1048576) := by
  by_cases c0 : (a.size : Int) = 0
  · obtain ⟨s, i', h', g1, g2, g3⟩ := text_ok b hb i h hi 3 (by omega) (by omega)
    refine ⟨s, i', h', ?_, by omega, g3⟩
    unfold spec_l1Spoil.f
    simp only [if_pos c0]
    exact Ev.bind g1 (Ev.now _)
  · obtain ⟨x1, i1, h1, f1, hx1, hi1⟩ := below_ok b hb i h hi (a.size : Int)
    obtain ⟨x2, i2, h2, f2, _, hi2⟩ := below_ok b hb i1 h1 hi1 4
    have hlt := hx1.2.1 (by omega)
    have p0 := hx1.1
    have p1 : x1 ≤ (a.size : Int) := by omega
    have e1 : wrap64 (x1 + 1) = x1 + 1 := w64 (by omega) (by omega)
    have p2 : 0 ≤ x1 + 1 := by omega
    have p3 : x1 + 1 ≤ (a.size : Int) := by omega
    have s1 := ext_size a 0 x1.toNat
    have s2 := ext_size a (x1 + 1).toNat a.size
    have s3 := ext_size a x1.toNat a.size
    suffices key : ∃ s i' h', spec_l1Spoil.f 0 b i h a = some (s, i', h') ∧ (∀ k, spec_l1Spoil.f k b i h a = some (s, i', h')) ∧ s.size ≤ 2000 + 2 * a.size ∧ (0 ≤ i' ∧ i' ≤ 1048576) by
      obtain ⟨s, i', h', _, k1, k2, k3⟩ := key
      exact ⟨s, i', h', Ev.congr' (Ev.now _) k1, k2, k3⟩
    suffices key : ∃ s i' h', (∀ k, spec_l1Spoil.f k b i h a = some (s, i', h')) ∧ s.size ≤ 2000 + 2 * a.size ∧ (0 ≤ i' ∧ i' ≤ 1048576) by
      obtain ⟨s, i', h', k1, k2, k3⟩ := key
      exact ⟨s, i', h', k1 0, k1, k2, k3⟩
    by_cases d0 : x2 = 0
    · have q1 : (a.extract 0 x1.toNat).size + (a.extract (x1 + 1).toNat a.size).size ≤ 9223372036854775807 := by omega
      exact ⟨_, i2, h2, fun k => by unfold spec_l1Spoil.f; rw [if_neg c0, f1, Option.bind_some, f2, Option.bind_some, if_pos d0, if_pos p0, if_pos p1, e1, if_pos p2, if_pos p3, if_pos q1], by simp only [ByteArray.size_append]; omega, hi2⟩
    · by_cases d1 : x2 = 1
      · obtain ⟨x3, i3, h3, f3, _, hi3⟩ := byte_ok b hb i2 h2 hi2
        have z : (strOfNums [x3 % 256]).size = 1 := by rw [strOfNums_size]; rfl
        have q1 : (a.extract 0 x1.toNat).size + (strOfNums [x3 % 256]).size ≤ 9223372036854775807 := by omega
        have q2 : ((a.extract 0 x1.toNat) ++ (strOfNums [x3 % 256])).size + (a.extract x1.toNat a.size).size ≤ 9223372036854775807 := by simp only [ByteArray.size_append]; omega
        exact ⟨_, i3, h3, fun k => by unfold spec_l1Spoil.f; rw [if_neg c0, f1, Option.bind_some, f2, Option.bind_some, if_neg d0, if_pos d1, if_pos p0, if_pos p1, f3, Option.bind_some, Option.bind_some, if_pos q1, if_pos q2], by simp only [ByteArray.size_append, z]; omega, hi3⟩
      · by_cases d2 : x2 = 2
        · exact ⟨_, i2, h2, fun k => by unfold spec_l1Spoil.f; rw [if_neg c0, f1, Option.bind_some, f2, Option.bind_some, if_neg d0, if_neg d1, if_pos d2, if_pos p0, if_pos p1], by dsimp only; omega, hi2⟩
        · obtain ⟨x3, i3, h3, f3, _, hi3⟩ := below_ok b hb i2 h2 hi2 255
          have z : ∀ c : Int, (strOfNums [c]).size = 1 := fun c => by rw [strOfNums_size]; rfl
          have q1 : ∀ c : Int, (a.extract 0 x1.toNat).size + (strOfNums [c]).size ≤ 9223372036854775807 := fun c => by rw [z]; omega
          have q2 : ∀ c : Int, ((a.extract 0 x1.toNat) ++ (strOfNums [c])).size + (a.extract (x1 + 1).toNat a.size).size ≤ 9223372036854775807 := fun c => by rw [ByteArray.size_append, z]; omega
          exact ⟨_, i3, h3, fun k => by unfold spec_l1Spoil.f; rw [if_neg c0, f1, Option.bind_some, f2, Option.bind_some, if_neg d0, if_neg d1, if_neg d2, if_pos p0, if_pos p1, if_pos hlt, f3, Option.bind_some, Option.bind_some, if_pos (q1 _), e1, if_pos p2, if_pos p3, if_pos (q2 _)], by simp only [ByteArray.size_append, z]; omega, hi3⟩

/-! spec_Var -/
theorem spec_Var_l0 : ∀ (n : Nat) (acc : List Int), n < 9223372036854775808 → acc.length + (varB n).length ≤ 140737488355328 → Ev (fun k => spec_Var.l0 k n acc) (strOfNums (acc ++ varB n)) := by
  intro n
  induction n using Nat.strongRecOn with
  | _ n ih =>
    intro acc hn hl
    by_cases h : n < 128
    · rw [varB_lt h] at hl ⊢
      simp only [List.length_cons, List.length_nil] at hl
      refine Ev.step (fun k => by simp only [spec_Var.l0]; rw [if_neg (by omega), if_pos (by omega)]) ?_
      refine evSome ?_
      rw [Int.emod_eq_of_lt (by omega) (by omega)]
    · rw [varB_ge h] at hl ⊢
      simp only [List.length_cons] at hl
      refine Ev.step (fun k => by simp only [spec_Var.l0]; rw [if_pos (by omega), if_pos (by omega)]) ?_
      have e1 : wrap64 (Int.tdiv (n : Int) 128) = ((n / 128 : Nat) : Int) := by
        rw [Int.tdiv_eq_ediv_of_nonneg (by omega), w64 (by omega) (by omega)]; rfl
      have e2 : (wrap64 (128 + Int.tmod (n : Int) 128)) % 256 = 128 + (n : Int) % 128 := by
        rw [Int.tmod_eq_emod_of_nonneg (by omega), w64 (by omega) (by omega)]; omega
      rw [e1, e2]
      have := ih (n / 128) (by omega) (acc ++ [128 + (n : Int) % 128]) (by omega) (by simp only [List.length_append, List.length_cons, List.length_nil]; omega)
      simpa only [List.append_assoc, List.cons_append, List.nil_append] using this
theorem spec_Var_ev (n : Int) : Ev (fun k => spec_Var.f k n) (varS n) := by
  unfold spec_Var.f varS
  simp only [spec_l1In_eq, Option.bind_some, decide_eq_true_eq]
  by_cases h : 0 ≤ n ∧ n ≤ 562949953421311
  · rw [if_pos h]
    simp only [if_pos h]
    obtain ⟨m, rfl⟩ := Int.eq_ofNat_of_zero_le h.1
    have hl := varB_len 7 m (by omega)
    have := spec_Var_l0 m [] (by omega) (by simp; omega)
    simpa only [List.nil_append, Int.toNat_natCast] using this
  · rw [if_neg h]
    simp only [if_neg h]
    exact Ev.now _

/-! spec_PutTree -/
theorem spec_PutTree_l0 (l : List S46) (hl : l.length ≤ 1048576) (d : Nat) : ∀ (j : Nat) (s : ByteArray), j + d = l.length → s.size ≤ 8 + 16 * j → Ev (fun k => spec_PutTree.l0 k l s j) (putGo l d j s) := by
  induction d with
  | zero =>
    intro j s hj hs
    exact Ev.step (f := fun _ => some s) (fun k => by simp only [spec_PutTree.l0]; rw [if_neg (by omega)]) (Ev.now _)
  | succ d ih =>
    intro j s hj hs
    have c1 : (j : Int) < (l.length : Int) := by omega
    have c2 : (0 : Int) ≤ (j : Int) := by omega
    have v1 := varS_size (lab l j)
    have v2 := varS_size (dep l j)
    have e4 : wrap64 ((j : Int) + 1) = ((j + 1 : Nat) : Int) := by rw [w64 (by omega) (by omega)]; rfl
    have s1 : s.size + (varS (lab l j)).size ≤ 9223372036854775807 := by omega
    have s2 : (s ++ varS (lab l j)).size + (varS (dep l j)).size ≤ 9223372036854775807 := by rw [ByteArray.size_append]; omega
    refine Ev.step (fun k => by rw [spec_PutTree.l0, if_pos c1, if_pos c2, e4, rdN]) ?_
    refine Ev.bind (spec_Var_ev _) ?_
    simp only [if_pos s1]
    refine Ev.bind (spec_Var_ev _) ?_
    simp only [if_pos s2, ByteArray.append_assoc]
    simp only [putGo]
    exact ih (j + 1) _ (by omega) (by have v3 := varS_size (l.getD j z46).f0; have v4 := varS_size (l.getD j z46).f1; simp only [ByteArray.size_append]; omega)
theorem spec_PutTree_ev (l : List S46) (hl : l.length ≤ 1048576) : Ev (fun k => spec_PutTree.f k l) (putT l) := by
  unfold spec_PutTree.f putT
  refine Ev.bind (spec_TreeOk_ev l hl) ?_
  by_cases h : treeB (lab l) (dep l) l.length = true
  · rw [h]
    simp only [if_true]
    refine Ev.bind (spec_Var_ev _) ?_
    exact spec_PutTree_l0 l hl l.length 0 _ (by omega) (by have := varS_size (l.length : Int); omega)
  · rw [Bool.eq_false_iff.mpr h]
    simp only [Bool.false_eq_true, if_false]; exact Ev.now _

/-! spec_l1Pick -/
theorem pick_ok (b : List Int) (hb : b.length ≤ 1048576) (i h : Int) (hi : 0 ≤ i ∧ i ≤ 1048576) (l : List ByteArray) (hl : 0 < l.length) (m : Nat) (hm : ∀ x ∈ l, x.size ≤ m) : ∃ x i' h', spec_l1Pick.f b i h l = some (x, i', h') ∧ x.size ≤ m ∧ (0 ≤ i' ∧ i' ≤ 1048576) := by
  obtain ⟨x, i1, h1, e1, hx, hi1⟩ := below_ok b hb i h hi (l.length : Int)
  unfold spec_l1Pick.f
  rw [e1]
  simp only [Option.bind_some]
  have hlt := hx.2.1 (by omega)
  rw [if_pos hx.1, if_pos hlt]
  refine ⟨_, _, _, rfl, ?_, hi1⟩
  unfold rdOf
  have hn : x.toNat < l.length := by omega
  rw [List.getD_eq_getElem?_getD, List.getElem?_eq_getElem hn]
  exact hm _ (List.getElem_mem hn)

/-! spec_l4Bytes -/
theorem putGo_size (l : List S46) (d : Nat) : ∀ (j : Nat) (s : ByteArray), (putGo l d j s).size ≤ s.size + 16 * d := by
  induction d with
  | zero => intro j s; simp [putGo]
  | succ d ih =>
    intro j s
    have h := ih (j + 1) (s ++ (varS (lab l j) ++ varS (dep l j)))
    have h1 := varS_size (lab l j)
    have h2 := varS_size (dep l j)
    simp only [ByteArray.size_append] at h
    simp only [putGo]
    omega
theorem putT_size (l : List S46) : (putT l).size ≤ 1000 := by
  unfold putT
  by_cases h : treeB (lab l) (dep l) l.length = true
  · rw [if_pos h]
    have h1 := putGo_size l l.length 0 (varS l.length)
    have h2 := varS_size l.length
    have h3 := (treeB_iff.1 h).1
    omega
  · rw [if_neg h]; exact Nat.zero_le _
theorem bytes_ok (b : List Int) (hb : b.length ≤ 1048576) (i h : Int) (hi : 0 ≤ i ∧ i ≤ 1048576) (n : Nat) (hn : n ≤ 500) : ∃ s i' h', Ev (fun k => spec_l4Bytes.f k b i h n) (s, i', h') ∧ s.size ≤ 10000 := by
  obtain ⟨t, i1, h1, f1, ht, hi1⟩ := tree_ok b hb i h hi n hn
  obtain ⟨x, i2, h2, f2, hx, hi2⟩ := below_ok b hb i1 h1 hi1 9
  have hp := spec_PutTree_ev t (by omega)
  have hs := putT_size t
  generalize putT t = p at hp hs
  suffices key : ∃ s i' h', Ev (fun k => if x = 0 then ((spec_l1Spoil.f k b i2 h2 p).bind fun bt370 => (some (bt370.1, bt370.2.1, bt370.2.2))) else (if x = 1 then ((spec_l1Below.f b i2 h2 (wrap64 ((p.size : Int) + 1))).bind fun bt373 => (if 0 ≤ bt373.1 then (if bt373.1 ≤ (p.size : Int) then (some (p.extract 0 (bt373.1 : Int).toNat, bt373.2.1, bt373.2.2)) else (none)) else (none))) else (if x = 2 then ((spec_l1Pick.f b i2 h2 (([(⟨#[0]⟩ : ByteArray), (⟨#[120]⟩ : ByteArray)] : List ByteArray))).bind fun bt379 => (if p.size + bt379.1.size ≤ 9223372036854775807 then (some (p ++ bt379.1, bt379.2.1, bt379.2.2)) else (none))) else (if x = 3 then ((spec_l1Text.f k b i2 h2 5).bind fun bt382 => (some (bt382.1, bt382.2.1, bt382.2.2))) else (some (p, i2, h2)))))) (s, i', h') ∧ s.size ≤ 10000 by
    obtain ⟨s, i', h', a1, a2⟩ := key
    refine ⟨s, i', h', ?_, a2⟩
    unfold spec_l4Bytes.f
    refine Ev.bind f1 (Ev.bind hp ?_)
    simp only [f2, Option.bind_some]
    exact a1
  by_cases g0 : x = 0
  · obtain ⟨s, i3, h3, f3, hs3, _⟩ := spoil_ok b hb i2 h2 hi2 p (by omega)
    simp only [if_pos g0]
    exact ⟨s, i3, h3, Ev.bind f3 (Ev.now _), by omega⟩
  · simp only [if_neg g0]
    by_cases g1 : x = 1
    · simp only [if_pos g1]
      rw [show wrap64 ((p.size : Int) + 1) = (p.size : Int) + 1 from w64 (by omega) (by omega)]
      obtain ⟨y, i3, h3, f3, hy, _⟩ := below_ok b hb i2 h2 hi2 ((p.size : Int) + 1)
      have hlt := hy.2.1 (by omega)
      simp only [f3, Option.bind_some, if_pos hy.1, if_pos (show y ≤ (p.size : Int) by omega)]
      exact ⟨_, _, _, Ev.now _, by have := ext_size p 0 y.toNat; omega⟩
    · simp only [if_neg g1]
      by_cases g2 : x = 2
      · obtain ⟨y, i3, h3, f3, hy, _⟩ := pick_ok b hb i2 h2 hi2 [(⟨#[0]⟩ : ByteArray), (⟨#[120]⟩ : ByteArray)] (by decide) 1 (by intro z hz; simp only [List.mem_cons, List.not_mem_nil, or_false] at hz; rcases hz with rfl | rfl <;> decide)
        simp only [if_pos g2, f3, Option.bind_some, if_pos (show p.size + y.size ≤ 9223372036854775807 by omega)]
        exact ⟨_, _, _, Ev.now _, by rw [ByteArray.size_append]; omega⟩
      · simp only [if_neg g2]
        by_cases g3 : x = 3
        · obtain ⟨s, i3, h3, f3, hs3, _⟩ := text_ok b hb i2 h2 hi2 5 (by omega) (by omega)
          simp only [if_pos g3]
          exact ⟨s, i3, h3, Ev.bind f3 (Ev.now _), by omega⟩
        · simp only [if_neg g3]
          exact ⟨_, _, _, Ev.now _, by omega⟩

/-! spec_DrawGetTree -/
theorem drawGetTree_ok (c : List Int) (hc : c.length ≤ 1048576) : ∃ s, Ev (fun k => spec_DrawGetTree.f k c) s ∧ s.size ≤ 10000 := by
  obtain ⟨h, a⟩ := new_ok c hc
  obtain ⟨s, i', h', f1, hl⟩ := bytes_ok c hc 0 h (by omega) 10 (by omega)
  exact ⟨s, Ev.bind a (Ev.bind f1 (Ev.now _)), hl⟩

/-! spec_ReadVar -/
theorem take_all_eq (s : ByteArray) (K i : Nat) (hi : i < K) (hK : K ≤ s.size) : ((bytesOf s).take K).drop i = bt s (i : Int) :: ((bytesOf s).take K).drop (i + 1) := by
  have h := drop_bytes s i (by omega)
  rw [List.drop_take, List.drop_take, h, show K - i = (K - (i + 1)) + 1 by omega, List.take_succ_cons]
theorem spec_ReadVar_l1 (s : ByteArray) (K : Nat) (hK : K ≤ 7) (hs : K ≤ s.size) (r : Int × Int)
    (h : Ev (fun k => spec_ReadVar.l1 k s K (decV ((bytesOf s).take K)) (-1)) r) :
    ∀ i : Nat, i ≤ K → Ev (fun k => spec_ReadVar.l1 k s K (decV (((bytesOf s).take K).drop i)) ((i : Int) - 1)) r := by
  intro i
  induction i with
  | zero => intro _; simpa using h
  | succ i ih =>
    intro hi
    have hb := bt_u8 s (i : Int)
    have hd := decV_nonneg (((bytesOf s).take K).drop (i + 1))
    have hm := decV_max (((bytesOf s).take K).drop (i + 1)) (by simp; omega)
    have hi' := ih (by omega)
    rw [take_all_eq s K i (by omega) hs] at hi'
    simp only [decV] at hi'
    have e0 : ((i + 1 : Nat) : Int) - 1 = (i : Int) := by omega
    have c1 : (i : Int) ≥ 0 := by omega
    have c2 : (0 : Int) ≤ (i : Int) := by omega
    have c3 : (i : Int) < (s.size : Int) := by omega
    generalize decV (((bytesOf s).take K).drop (i + 1)) = q at *
    have e1 : wrap64 (q * 128) = q * 128 := w64 (by omega) (by omega)
    have e2 : Int.tmod (wrap64 (bt s i)) 128 = bt s i % 128 := by rw [w64 (by omega) (by omega), Int.tmod_eq_emod_of_nonneg (by omega)]
    have e3 : wrap64 (q * 128 + bt s i % 128) = bt s i % 128 + 128 * q := by rw [w64 (by omega) (by omega)]; omega
    have e4 : wrap64 ((i : Int) - 1) = (i : Int) - 1 := w64 (by omega) (by omega)
    rw [e0]
    refine Ev.step (fun k => by simp only [spec_ReadVar.l1]; rw [if_pos c1, if_pos c2, if_pos c3, e1, e2, e3, e4]) ?_
    exact hi'
/-- One try: the first K bytes. -/
theorem spec_ReadVar_try (s : ByteArray) (K : Nat) (h1 : 1 ≤ K) (hK : K ≤ 7) (hs : K ≤ s.size) (r : Int × Int)
    (hyes : goodV ((bytesOf s).take K) → (decV ((bytesOf s).take K), (K : Int)) = r)
    (hno : ¬ goodV ((bytesOf s).take K) → Ev (fun k => spec_ReadVar.l0 k s ((K + 1 : Nat) : Int)) r) :
    Ev (fun k => spec_ReadVar.l0 k s K) r := by
  have c1 : (K : Int) ≤ 7 := by omega
  have c2 : (K : Int) ≤ (s.size : Int) := by omega
  have c3 : (0 : Int) ≤ (K : Int) := by omega
  have hnil : ((bytesOf s).take K).drop K = [] := List.drop_of_length_le (by simp; omega)
  have hlen : ((bytesOf s).take K).length ≤ 7 := by simp; omega
  have hd := decV_nonneg ((bytesOf s).take K)
  have hm := decV_max ((bytesOf s).take K) hlen
  have e0 : wrap64 ((K : Int) - 1) = (K : Int) - 1 := w64 (by omega) (by omega)
  have e1 : wrap64 ((K : Int) + 1) = ((K + 1 : Nat) : Int) := by rw [w64 (by omega) (by omega)]; rfl
  refine Ev.step (fun k => by simp only [spec_ReadVar.l0]; rw [if_pos c1, decide_eq_true c2]) ?_
  refine Ev.step (fun k => by rw [spec_ReadVar.j1]) ?_
  simp only [if_true, e0]
  have := spec_ReadVar_l1 s K hK hs r ?_ K (Nat.le_refl _)
  · rw [hnil] at this; exact this
  · refine Ev.step (fun k => by simp only [spec_ReadVar.l1]; rw [if_neg (by decide)]) ?_
    refine Ev.bind (spec_Var_ev _) ?_
    simp only [if_pos c3, if_pos c2, e1, toList_eq_iff, bytesOf_extract, Int.toNat_natCast, List.drop_zero]
    have hv : varS (decV ((bytesOf s).take K)) = strOfNums (varB (decV ((bytesOf s).take K)).toNat) := by
      unfold varS; rw [if_pos ⟨hd, hm⟩]
    rw [hv, bytesOf_strOf (varB_range _)]
    by_cases hg : goodV ((bytesOf s).take K)
    · rw [varB_decV _ hg]
      simp only [if_true]
      exact evSome (hyes hg)
    · have hne : ¬ varB (decV ((bytesOf s).take K)).toNat = (bytesOf s).take K := by
        intro e; apply hg; rw [← e]; exact goodV_varB _
      simp only [if_neg hne]
      exact hno hg
theorem spec_ReadVar_end (s : ByteArray) (K : Nat) (h : 7 < K ∨ s.size < K) : Ev (fun k => spec_ReadVar.l0 k s K) (0, 0) := by
  by_cases c : (K : Int) ≤ 7
  · refine Ev.step (fun k => by simp only [spec_ReadVar.l0]; rw [if_pos c, decide_eq_false (by omega)]) ?_
    refine Ev.step (fun k => by rw [spec_ReadVar.j1]) ?_
    simp only [Bool.false_eq_true, if_false]; exact Ev.now _
  · refine Ev.step (fun k => by simp only [spec_ReadVar.l0]; rw [if_neg c]) ?_
    refine Ev.step (fun k => by rw [spec_ReadVar.j1]) ?_
    simp only [Bool.false_eq_true, if_false]; exact Ev.now _
/-- Behind a byte below 128 nothing fits. -/
theorem spec_ReadVar_low (s : ByteArray) (t : Nat) (ht : bt s (t : Int) < 128) (d : Nat) : ∀ K : Nat, t + 1 < K → K + d = min s.size 7 + 1 → Ev (fun k => spec_ReadVar.l0 k s K) (0, 0) := by
  induction d with
  | zero => intro K h1 h2; exact spec_ReadVar_end s K (by omega)
  | succ d ih =>
    intro K h1 h2
    have hng : ¬ goodV ((bytesOf s).take K) := by
      have e := List.take_append_drop t ((bytesOf s).take K)
      rw [take_all_eq s K t (by omega) (by omega)] at e
      rw [← e]
      refine not_goodV_low _ _ _ ?_ ht
      intro hn
      have := congrArg List.length hn
      simp [bytesOf_len] at this; omega
    exact spec_ReadVar_try s K (by omega) (by omega) (by omega) _ (fun hg => absurd hg hng) (fun _ => ih (K + 1) (by omega) (by omega))
theorem decV_take_succ (s : ByteArray) (i : Nat) (h : i < s.size) : decV ((bytesOf s).take (i + 1)) = decV ((bytesOf s).take i) + bt s i % 128 * 128 ^ i := by
  rw [take_bytes_succ s i h, decV_snoc, List.length_take, bytesOf_len, Nat.min_eq_left (by omega)]
theorem spec_ReadVar_l0 (s : ByteArray) (d : Nat) : ∀ i : Nat, i + d = min s.size 7 → (∀ x ∈ (bytesOf s).take i, 128 ≤ x) → Ev (fun k => spec_ReadVar.l0 k s ((i + 1 : Nat) : Int)) (rvGo s d i (decV ((bytesOf s).take i))) := by
  induction d with
  | zero => intro i hi hx; exact spec_ReadVar_end s (i + 1) (by omega)
  | succ d ih =>
    intro i hi hx
    have hb := bt_u8 s (i : Int)
    have htk := take_bytes_succ s i (by omega)
    have hlen : ((bytesOf s).take i).length = i := by simp [bytesOf_len]; omega
    have hrange : ∀ x ∈ (bytesOf s).take i, 128 ≤ x ∧ x ≤ 255 := fun x hm => ⟨hx x hm, (bytesOf_range s x (List.mem_of_mem_take hm)).2⟩
    simp only [rvGo]
    by_cases hlow : bt s (i : Int) < 128
    · rw [if_pos hlow]
      by_cases hz : 0 < i ∧ bt s (i : Int) = 0
      · rw [if_pos hz]
        refine spec_ReadVar_try s (i + 1) (by omega) (by omega) (by omega) _ (fun hg => ?_) (fun _ => ?_)
        · rw [htk] at hg
          rcases (goodV_last _ _ hg).2 with h | h
          · rw [h] at hlen; simp at hlen; omega
          · exact absurd hz.2 h
        · exact spec_ReadVar_low s i hlow d (i + 1 + 1) (by omega) (by omega)
      · rw [if_neg hz]
        refine spec_ReadVar_try s (i + 1) (by omega) (by omega) (by omega) _ (fun _ => ?_) (fun hg => ?_)
        · rw [decV_take_succ s i (by omega)]; rfl
        · refine absurd ?_ hg
          rw [htk]
          refine goodV_snoc _ hrange _ hb.1 hlow ?_
          by_cases h0 : i = 0
          · left; subst h0; rfl
          · right; omega
    · rw [if_neg hlow]
      refine spec_ReadVar_try s (i + 1) (by omega) (by omega) (by omega) _ (fun hg => ?_) (fun _ => ?_)
      · rw [htk] at hg
        exact absurd (goodV_last _ _ hg).1 hlow
      · rw [← decV_take_succ s i (by omega)]
        refine ih (i + 1) (by omega) ?_
        intro x hm
        rw [htk] at hm
        simp only [List.mem_append, List.mem_singleton] at hm
        rcases hm with hm | rfl
        · exact hx x hm
        · omega
theorem spec_ReadVar_ev (s : ByteArray) : Ev (fun k => spec_ReadVar.f k s) (readVar s) := by
  have := spec_ReadVar_l0 s (min s.size 7) 0 (by omega) (by simp)
  simpa [spec_ReadVar.f, readVar, decV] using this

/-! spec_l4Num -/
/-- The number at a place, and the place behind it; -1 where there is none. -/
def numAt (s : ByteArray) (a : Nat) : Int × Int := if (readVar (s.extract a s.size)).2 = 0 then (0, -1) else ((readVar (s.extract a s.size)).1, (a : Int) + (readVar (s.extract a s.size)).2)
theorem spec_l4Num_ev (s : ByteArray) (hs : s.size ≤ 1048576) (a : Nat) (ha : a ≤ s.size) : Ev (fun k => spec_l4Num.f k s a) (numAt s a) := by
  unfold spec_l4Num.f
  simp only [if_pos (show (0 : Int) ≤ (a : Int) by omega), if_pos (show (a : Int) ≤ (s.size : Int) by omega), Int.toNat_natCast]
  refine Ev.bind (spec_ReadVar_ev (s.extract a s.size)) ?_
  have hr := readVar_range (s.extract a s.size)
  rw [tail_size] at hr
  have e : wrap64 ((a : Int) + (readVar (s.extract a s.size)).2) = (a : Int) + (readVar (s.extract a s.size)).2 := w64 (by omega) (by omega)
  unfold numAt
  by_cases h : (readVar (s.extract a s.size)).2 = 0
  · rw [if_pos h]; simp only [if_pos h]; exact Ev.now _
  · rw [if_neg h]; simp only [if_neg h, e]; exact Ev.now _

/-! spec_GetTree -/
theorem numAt_no {s : ByteArray} {a : Nat} (h : (readVar (s.extract a s.size)).2 = 0) : numAt s a = (0, -1) := by unfold numAt; rw [if_pos h]
theorem numAt_yes {s : ByteArray} {a : Nat} (h : ¬ (readVar (s.extract a s.size)).2 = 0) (ha : a ≤ s.size) : numAt s a = ((readVar (s.extract a s.size)).1, ((a + (readVar (s.extract a s.size)).2.toNat : Nat) : Int)) := by
  have := (readVar_range (s.extract a s.size)).2.1
  unfold numAt; rw [if_neg h]; congr 1; omega
theorem spec_GetTree_l0 (s : ByteArray) (hs : s.size ≤ 1048576) (n : Nat) (hn : n ≤ 24) (d : Nat) : ∀ (i a : Nat) (acc : List S46), i + d = n → a ≤ s.size → acc.length = i → (∀ j, j < i → 0 ≤ dep acc j ∧ dep acc j ≤ 12) →
    Ev (fun k => spec_GetTree.l0 k s acc n a i) (getGo s d i a acc) := by
  induction d with
  | zero =>
    intro i a acc hi ha hl hd
    refine Ev.step (fun k => by rw [spec_GetTree.l0, if_neg (by omega)]) ?_
    simp only [getGo]
    by_cases h : a = s.size
    · simp only [if_pos h, if_pos (show (a : Int) = (s.size : Int) by omega)]; exact Ev.now _
    · simp only [if_neg h, if_neg (show ¬ (a : Int) = (s.size : Int) by omega)]; exact Ev.now _
  | succ d ih =>
    intro i a acc hi ha hl hd
    have c0 : (i : Int) < (n : Int) := by omega
    refine Ev.step (fun k => by rw [spec_GetTree.l0, if_pos c0]) ?_
    refine Ev.bind (spec_l4Num_ev s hs a ha) ?_
    simp only [getGo]
    have hr := readVar_range (s.extract a s.size)
    rw [tail_size] at hr
    by_cases h1 : (readVar (s.extract a s.size)).2 = 0
    · rw [numAt_no h1]
      simp only [if_pos h1, if_pos (show (-1 : Int) < 0 by omega)]; exact Ev.now _
    · rw [numAt_yes h1 ha]
      have hat : a + (readVar (s.extract a s.size)).2.toNat ≤ s.size := by omega
      have hq := readVar_range (s.extract (a + (readVar (s.extract a s.size)).2.toNat) s.size)
      rw [tail_size] at hq
      simp only [if_neg h1, if_neg (show ¬ (((a + (readVar (s.extract a s.size)).2.toNat : Nat) : Int) < 0) by omega), spec_LabelOk_eq, Option.bind_some, decide_eq_true_eq]
      generalize (readVar (s.extract a s.size)).1 = lb at *
      generalize a + (readVar (s.extract a s.size)).2.toNat = a2 at *
      by_cases h2 : 0 ≤ lb ∧ lb ≤ 5
      · simp only [if_pos h2, if_neg (show ¬ ¬ (0 ≤ lb ∧ lb ≤ 5) from fun h => h h2)]
        refine Ev.bind (spec_l4Num_ev s hs a2 hat) ?_
        by_cases h3 : (readVar (s.extract a2 s.size)).2 = 0
        · rw [numAt_no h3]
          simp only [if_pos h3, if_pos (show (-1 : Int) < 0 by omega)]; exact Ev.now _
        · rw [numAt_yes h3 hat]
          have hat3 : a2 + (readVar (s.extract a2 s.size)).2.toNat ≤ s.size := by omega
          simp only [if_neg h3, if_neg (show ¬ (((a2 + (readVar (s.extract a2 s.size)).2.toNat : Nat) : Int) < 0) by omega)]
          generalize a2 + (readVar (s.extract a2 s.size)).2.toNat = a3 at *
          generalize (readVar (s.extract a2 s.size)).1 = q at *
          by_cases h4 : q > 12
          · simp only [if_pos h4]; exact Ev.now _
          · simp only [if_neg h4]
            have hlen : acc.length < 8796093022208 := by omega
            have hnext := ih (i + 1) a3 (acc ++ [⟨lb, q⟩]) (by omega) hat3 (by simp; omega) (fun j hj => by
              by_cases hji : j < i
              · have := hd j hji
                unfold dep at this ⊢
                rw [List.getD_eq_getElem?_getD, List.getElem?_append_left (by omega), ← List.getD_eq_getElem?_getD]
                exact this
              · have : j = acc.length := by omega
                subst this
                unfold dep
                simp [List.getD_eq_getElem?_getD]
                omega)
            by_cases h0 : i = 0
            · subst h0
              by_cases hz : q = 0
              · have hb : ((q == 0) != (((0 : Nat) : Int) == 0)) = false := by rw [hz]; rfl
                have hs5 : ¬ ¬ shapeP acc 0 q := fun h => h ⟨fun _ => hz, fun h => by omega⟩
                have e4 : wrap64 (((0 : Nat) : Int) + 1) = ((0 + 1 : Nat) : Int) := by rw [w64 (by omega) (by omega)]; rfl
                simp only [hb, Bool.false_eq_true, if_false, if_neg (show ¬ ((0 : Nat) : Int) > 0 by omega), if_pos hlen, e4, if_neg hs5]
                exact hnext
              · have hb : ((q == 0) != (((0 : Nat) : Int) == 0)) = true := by simp [hz]
                have hs5 : ¬ shapeP acc 0 q := fun h => hz (h.1 rfl)
                simp only [hb, if_true, if_pos hs5]; exact Ev.now _
            · have hiz : ((i : Int) == 0) = false := by simp; omega
              by_cases hz : q = 0
              · have hb : ((q == 0) != ((i : Int) == 0)) = true := by rw [hiz, hz]; rfl
                have hs5 : ¬ shapeP acc i q := fun h => by have := h.2 (by omega); omega
                simp only [hb, if_true, if_pos hs5]; exact Ev.now _
              · have hb : ((q == 0) != ((i : Int) == 0)) = false := by rw [hiz]; simp [hz]
                have hpr := hd (i - 1) (by omega)
                have c5 : (0 : Int) ≤ ((i - 1 : Nat) : Int) := by omega
                have c6 : ((i - 1 : Nat) : Int) < (acc.length : Int) := by omega
                have c7 : (i : Int) > 0 := by omega
                have hsh : shapeP acc i q ↔ ¬ q > dep acc (i - 1) + 1 := ⟨fun h => by have := (h.2 (by omega)).2; omega, fun h => ⟨fun h => absurd h h0, fun _ => ⟨by omega, by omega⟩⟩⟩
                have e3 : wrap64 ((i : Int) - 1) = ((i - 1 : Nat) : Int) := by rw [w64 (by omega) (by omega)]; omega
                have e4 : wrap64 ((i : Int) + 1) = ((i + 1 : Nat) : Int) := by rw [w64 (by omega) (by omega)]; rfl
                have e5 : wrap64 (dep acc (i - 1) + 1) = dep acc (i - 1) + 1 := w64 (by omega) (by omega)
                simp only [hb, Bool.false_eq_true, if_false, if_pos c7, e3, e4, if_pos c5, if_pos c6, rdN, e5, if_pos hlen]
                by_cases h6 : q > dep acc (i - 1) + 1
                · have hs5 : ¬ shapeP acc i q := fun h => (hsh.1 h) h6
                  simp only [if_pos h6, if_pos hs5]; exact Ev.now _
                · have hs5 : ¬ ¬ shapeP acc i q := fun h => h (hsh.2 h6)
                  simp only [if_neg h6, if_neg hs5]
                  exact hnext
      · simp only [if_neg h2, if_pos h2]; exact Ev.now _
theorem spec_GetTree_ev (s : ByteArray) (hs : s.size ≤ 1048576) : Ev (fun k => spec_GetTree.f k s) (getT s) := by
  unfold spec_GetTree.f getT
  simp only [Option.bind_some]
  have h0 := spec_l4Num_ev s hs 0 (Nat.zero_le _)
  refine Ev.bind h0 ?_
  have hr := readVar_range s
  by_cases h1 : (readVar s).2 = 0
  · rw [numAt_no (by rw [tail_all]; exact h1)]
    simp only [if_pos h1, if_pos (show (-1 : Int) < 0 by omega)]; exact Ev.now _
  · rw [numAt_yes (by rw [tail_all]; exact h1) (Nat.zero_le _), tail_all, Nat.zero_add]
    simp only [if_neg h1, if_neg (show ¬ (((readVar s).2.toNat : Int) < 0) by omega), spec_l1In_eq, Option.bind_some, decide_eq_true_eq]
    by_cases h2 : 1 ≤ (readVar s).1 ∧ (readVar s).1 ≤ 24
    · simp only [if_pos h2, if_neg (show ¬ ¬ (1 ≤ (readVar s).1 ∧ (readVar s).1 ≤ 24) from fun h => h h2)]
      have := spec_GetTree_l0 s hs (readVar s).1.toNat (by omega) (readVar s).1.toNat 0 (readVar s).2.toNat [] (by omega) (by omega) rfl (fun j hj => by omega)
      rw [Int.toNat_of_nonneg hr.1] at this
      exact this
    · simp only [if_neg h2, if_pos h2]; exact Ev.now _

/-! spec_l7Cost -/
theorem ev_mono {α : Type} {f : Nat → Option α} (hm : ∀ k, LeO (f k) (f (k + 1))) {K : Nat} {r : α} (h : f K = some r) : Ev f r :=
  ⟨K, fun k hk => by
    induction hk with
    | refl => exact h
    | step _ ih => exact hm _ _ ih⟩
def unitL : List Int := [1, 1, 1, 1, 1, 1]
def unitR : List Int := [0, 1, 1, 1, 1, 1, 1, 0, 1, 1, 1, 1, 1, 1, 0, 1, 1, 1, 1, 1, 1, 0, 1, 1, 1, 1, 1, 1, 0, 1, 1, 1, 1, 1, 1, 0]
theorem spec_unit_ev : Ev (fun k => spec_UnitCost.f k) (unitL, unitL, unitR) := ev_mono (K := 200) (fun k => spec_UnitCost.mono k) (by kernel_rfl)
theorem l7Cost_l0 (s : List Int) (i h : Int) (a b : List Int) (d : Nat) : ∀ (j : Nat) (r : List Int), j + d = r.length → r.length = 36 → ∃ r', Ev (fun k => spec_l7Cost.l0 k j s i h a b r) (a, b, r', i, h) ∧ r'.length = 36 := by
  induction d with
  | zero =>
    intro j r hj hr
    have c0 : ¬ ((j : Int) < (r.length : Int)) := by omega
    exact ⟨r, Ev.step (f := fun _ => some (a, b, r, i, h)) (fun k => by simp only [spec_l7Cost.l0]; rw [if_neg c0]) (Ev.now _), hr⟩
  | succ d ih =>
    intro j r hj hr
    have c0 : (j : Int) < (r.length : Int) := by omega
    have c1 : (0 : Int) ≤ (j : Int) := by omega
    have e4 : wrap64 ((j : Int) + 1) = ((j + 1 : Nat) : Int) := by rw [w64 (by omega) (by omega)]; rfl
    obtain ⟨r', h1, h2⟩ := ih (j + 1) (r.set (j : Int).toNat (wrap64 (rd r j * 3))) (by rw [List.length_set]; omega) (by rw [List.length_set, hr])
    exact ⟨r', Ev.step (fun k => by simp only [spec_l7Cost.l0]; rw [if_pos c0, if_pos c1, e4]) h1, h2⟩
theorem idx6 (p q : Nat) (hp : p < 6) (hq : q < 6) : wrap64 (wrap64 ((p : Int) * 6) + (q : Int)) = ((p * 6 + q : Nat) : Int) := by
  have e : wrap64 ((p : Int) * 6) = (p : Int) * 6 := w64 (by omega) (by omega)
  rw [e]
  clear e
  rw [w64 (by omega) (by omega)]; omega
def lens (a b r : List Int) : Prop := a.length = 6 ∧ b.length = 6 ∧ r.length = 36
theorem nat_step (p : Nat) (h : p < 1000000) : wrap64 ((p : Int) + 1) = ((p + 1 : Nat) : Int) := by rw [w64 (by omega) (by omega)]; rfl
def l7Next (s : List Int) (p : Nat) : Prop := ∀ (i h : Int) (a b r : List Int), lens a b r → (0 ≤ i ∧ i ≤ 1048576) → ∃ a' b' r' i' h', Ev (fun k => spec_l7Cost.l1 k ((p : Nat) : Int) s i h a b r) (a', b', r', i', h') ∧ lens a' b' r' ∧ (0 ≤ i' ∧ i' ≤ 1048576)
theorem lens_r {a b r : List Int} (hl : lens a b r) (j : Nat) (y : Int) : lens a b (r.set j y) := ⟨hl.1, hl.2.1, by rw [List.length_set]; exact hl.2.2⟩
theorem lens_ab {a b r : List Int} (hl : lens a b r) (j : Nat) (x y : Int) : lens (a.set j x) (b.set j y) r := ⟨by rw [List.length_set]; exact hl.1, by rw [List.length_set]; exact hl.2.1, hl.2.2⟩
theorem lens_in {a b r : List Int} (hl : lens a b r) (j : Nat) (h : j < 36) : (j : Int) < (r.length : Int) := by rw [hl.2.2]; omega
theorem l7Cost_l2 (s : List Int) (hs : s.length ≤ 1048576) (p : Nat) (hp : p < 6) (hK : l7Next s (p + 1)) (e : Nat) : ∀ (q : Nat) (i h : Int) (a b r : List Int), q + e = 6 → lens a b r → (0 ≤ i ∧ i ≤ 1048576) →
    ∃ a' b' r' i' h', Ev (fun k => spec_l7Cost.l2 k p q s i h a b r) (a', b', r', i', h') ∧ lens a' b' r' ∧ (0 ≤ i' ∧ i' ≤ 1048576) := by
  induction e with
  | zero =>
    intro q i h a b r hq hl hi
    have d0 : ¬ ((q : Int) < 6) := by clear hl hi hK hs; omega
    obtain ⟨a', b', r', i', h', g1, g2, g3⟩ := hK i h a b r hl hi
    exact ⟨a', b', r', i', h', Ev.step (fun k => by rw [spec_l7Cost.l2, if_neg d0, nat_step p (by omega)]) g1, g2, g3⟩
  | succ e ihe =>
    intro q i h a b r hq hl hi
    have hq6 : q < 6 := by clear hl hi hK hs; omega
    have hq1 : q + 1 + e = 6 := by clear hl hi hK hs; omega
    have d0 : (q : Int) < 6 := by clear hl hi hK hs; omega
    have e4 := nat_step q (by clear hl hi hK hs; omega)
    by_cases c : (p : Int) = (q : Int)
    · obtain ⟨a', b', r', i', h', g1, g2, g3⟩ := ihe (q + 1) i h a b r hq1 hl hi
      exact ⟨a', b', r', i', h', Ev.step (fun k => by rw [spec_l7Cost.l2, if_pos d0, if_pos c, e4]) g1, g2, g3⟩
    · obtain ⟨y, i3, h3, f3, _, hi3⟩ := pickInt_ok s hs i h hi [0, 1, 4, 9, 1000] (by decide)
      have e5 := idx6 p q hp hq6
      have hj : p * 6 + q < 36 := by clear hl hi hK hs e4 e5 hi3; omega
      have d1 : (0 : Int) ≤ ((p * 6 + q : Nat) : Int) := Int.natCast_nonneg _
      have d2 := lens_in hl (p * 6 + q) hj
      obtain ⟨a', b', r', i', h', g1, g2, g3⟩ := ihe (q + 1) i3 h3 a b (r.set ((p * 6 + q : Nat) : Int).toNat y) hq1 (lens_r hl _ y) hi3
      exact ⟨a', b', r', i', h', Ev.step (fun k => by rw [spec_l7Cost.l2, if_pos d0, if_neg c, f3, Option.bind_some, e5, if_pos d1, if_pos d2, e4]) g1, g2, g3⟩
theorem l7Cost_l1 (s : List Int) (hs : s.length ≤ 1048576) (d : Nat) : ∀ p : Nat, p + d = 6 → l7Next s p := by
  induction d with
  | zero =>
    intro p hp i h a b r hl hi
    have c0 : ¬ ((p : Int) < 6) := by clear hl hi hs; omega
    exact ⟨a, b, r, i, h, Ev.step (f := fun _ => some (a, b, r, i, h)) (fun k => by rw [spec_l7Cost.l1, if_neg c0]) (Ev.now _), hl, hi⟩
  | succ d ih =>
    intro p hp i h a b r hl hi
    have hp6 : p < 6 := by clear hl hi hs; omega
    have hp1 : p + 1 + d = 6 := by clear hl hi hs; omega
    have c0 : (p : Int) < 6 := by clear hl hi hs; omega
    have c1 : (0 : Int) ≤ (p : Int) := Int.natCast_nonneg _
    have c2 : (p : Int) < (a.length : Int) := by rw [hl.1]; exact c0
    have c3 : (p : Int) < (b.length : Int) := by rw [hl.2.1]; exact c0
    obtain ⟨x1, i1, h1, f1, _, hi1⟩ := below_ok s hs i h hi 7
    obtain ⟨x2, i2, h2, f2, _, hi2⟩ := below_ok s hs i1 h1 hi1 7
    obtain ⟨a', b', r', i', h', g1, g2, g3⟩ := l7Cost_l2 s hs p hp6 (ih (p + 1) hp1) 6 0 i2 h2 (a.set (p : Int).toNat x1) (b.set (p : Int).toNat x2) r rfl (lens_ab hl _ x1 x2) hi2
    exact ⟨a', b', r', i', h', Ev.step (fun k => by rw [spec_l7Cost.l1, if_pos c0, f1, Option.bind_some, if_pos c1, if_pos c2, f2, Option.bind_some, if_pos c3]; rfl) g1, g2, g3⟩
theorem l7Cost_ok (s : List Int) (hs : s.length ≤ 1048576) (i h : Int) (hi : 0 ≤ i ∧ i ≤ 1048576) : ∃ a b r i' h', Ev (fun k => spec_l7Cost.f k s i h) (a, b, r, i', h') ∧ lens a b r ∧ (0 ≤ i' ∧ i' ≤ 1048576) := by
  obtain ⟨x, i1, h1, f1, _, hi1⟩ := below_ok s hs i h hi 4
  have hu : lens unitL unitL unitR := ⟨rfl, rfl, rfl⟩
  by_cases c : x = 0
  · refine ⟨unitL, unitL, unitR, i1, h1, ?_, hu, hi1⟩
    unfold spec_l7Cost.f
    refine Ev.bind spec_unit_ev ?_
    simp only [f1, Option.bind_some, if_pos c]
    exact Ev.now _
  · by_cases c2 : x = 1
    · obtain ⟨r', g1, g2⟩ := l7Cost_l0 s i1 h1 unitL unitL 36 0 unitR (by decide) (by decide)
      refine ⟨unitL, unitL, r', i1, h1, ?_, ⟨rfl, rfl, g2⟩, hi1⟩
      unfold spec_l7Cost.f
      refine Ev.bind spec_unit_ev ?_
      simp only [f1, Option.bind_some, if_neg c, if_pos c2]
      exact g1
    · obtain ⟨a', b', r', i', h', g1, g2, g3⟩ := l7Cost_l1 s hs 6 0 rfl i1 h1 unitL unitL unitR hu hi1
      refine ⟨a', b', r', i', h', ?_, g2, g3⟩
      unfold spec_l7Cost.f
      refine Ev.bind spec_unit_ev ?_
      simp only [f1, Option.bind_some, if_neg c, if_neg c2]
      exact g1

/-! spec_l7Any -/
theorem l7Any_ok (s : List Int) (hs : s.length ≤ 1048576) (i h : Int) (hi : 0 ≤ i ∧ i ≤ 1048576) : ∃ a b r i' h', Ev (fun k => spec_l7Any.f k s i h) (a, b, r, i', h') ∧ (a.length ≤ 36 ∧ b.length ≤ 36 ∧ r.length ≤ 36) ∧ (0 ≤ i' ∧ i' ≤ 1048576) := by
  obtain ⟨a, b, r, i1, h1, g1, hl, hi1⟩ := l7Cost_ok s hs i h hi
  have hl1 := hl.1
  have hl2 := hl.2.1
  have hl3 := hl.2.2
  obtain ⟨x, i2, h2, f2, _, hi2⟩ := below_ok s hs i1 h1 hi1 14
  by_cases c : x = 0
  · obtain ⟨y, i3, h3, f3, hy, hi3⟩ := below_ok s hs i2 h2 hi2 6
    obtain ⟨z, i4, h4, f4, _, hi4⟩ := pickInt_ok s hs i3 h3 hi3 [-1, 1001, 1000] (by decide)
    have c1 : 0 ≤ y := hy.1
    have c2 : y < (a.length : Int) := by have := hy.2.1 (by omega); omega
    refine ⟨a.set y.toNat z, b, r, i4, h4, ?_, ⟨by rw [List.length_set]; omega, by omega, by omega⟩, hi4⟩
    unfold spec_l7Any.f
    refine Ev.bind g1 ?_
    simp only [f2, Option.bind_some, if_pos c, f3, f4, if_pos c1, if_pos c2]
    exact Ev.now _
  · by_cases c2 : x = 1
    · obtain ⟨y, i3, h3, f3, hy, hi3⟩ := below_ok s hs i2 h2 hi2 36
      have c3 : 0 ≤ y := hy.1
      have c4 : y < (r.length : Int) := by have := hy.2.1 (by omega); omega
      refine ⟨a, b, r.set y.toNat 5, i3, h3, ?_, ⟨by omega, by omega, by rw [List.length_set]; omega⟩, hi3⟩
      unfold spec_l7Any.f
      refine Ev.bind g1 ?_
      simp only [f2, Option.bind_some, if_neg c, if_pos c2, f3, if_pos c3, if_pos c4]
      exact Ev.now _
    · by_cases c3 : x = 2
      · have c4 : (1 : Int) ≤ (b.length : Int) := by omega
        refine ⟨a, b.drop (1 : Int).toNat, r, i2, h2, ?_, ⟨by omega, by rw [List.length_drop]; omega, by omega⟩, hi2⟩
        unfold spec_l7Any.f
        refine Ev.bind g1 ?_
        simp only [f2, Option.bind_some, if_neg c, if_neg c2, if_pos c3, if_pos c4]
        exact Ev.now _
      · refine ⟨a, b, r, i2, h2, ?_, ⟨by omega, by omega, by omega⟩, hi2⟩
        unfold spec_l7Any.f
        refine Ev.bind g1 ?_
        simp only [f2, Option.bind_some, if_neg c, if_neg c2, if_neg c3]
        exact Ev.now _

/-! spec_DrawPutCost -/
theorem drawPutCost_ok (c : List Int) (hc : c.length ≤ 1048576) : ∃ a b r, Ev (fun k => spec_DrawPutCost.f k c) (a, b, r) ∧ a.length ≤ 36 ∧ b.length ≤ 36 ∧ r.length ≤ 36 := by
  obtain ⟨h, a⟩ := new_ok c hc
  obtain ⟨x, y, z, i', h', f1, hl, _⟩ := l7Any_ok c hc 0 h (by omega)
  exact ⟨x, y, z, Ev.bind a (Ev.bind f1 (Ev.now _)), hl⟩

/-! impl_pricesOk -/
theorem impl_pricesOk_eq (l : List Int) (n : Int) : impl_pricesOk.f l n = some (pricesT l n) := by
  unfold impl_pricesOk.f pricesT
  congr 2
  have h := badGo_all l 0
  by_cases g : ∀ x ∈ l, priceB x = true
  · have g2 : ¬ (0 ≤ badGo l 0) := fun e => (h.1 e) g
    have g3 : ∀ x ∈ l, 0 ≤ x ∧ x ≤ 1000 := fun x hx => by have := g x hx; unfold priceB at this; exact of_decide_eq_true this
    rw [decide_eq_false g2, decide_eq_true g3]; rfl
  · have g2 : 0 ≤ badGo l 0 := h.2 g
    have g3 : ¬ ∀ x ∈ l, 0 ≤ x ∧ x ≤ 1000 := fun e => g (fun x hx => by unfold priceB; exact decide_eq_true (e x hx))
    rw [decide_eq_true g2, decide_eq_false g3]; rfl

/-! impl_CostOk -/
theorem impl_CostOk_l0 (a b r : List Int) (hr : r.length = 36) (d : Nat) : ∀ j : Nat, j + d = 6 → Ev (fun k => impl_CostOk.l0 k j a b r) (diagGo r d j) := by
  induction d with
  | zero =>
    intro j hj
    exact Ev.step (f := fun _ => some true) (fun k => by simp only [impl_CostOk.l0]; rw [if_neg (by omega)]) (Ev.now _)
  | succ d ih =>
    intro j hj
    have c1 : (j : Int) < 6 := by omega
    have c2 : (0 : Int) ≤ (j : Int) * 6 + j := by omega
    have c3 : (j : Int) * 6 + j < (r.length : Int) := by omega
    have e1 : wrap64 (wrap64 ((j : Int) * 6) + j) = (j : Int) * 6 + j := by rw [w64 (n := (j : Int) * 6) (by omega) (by omega), w64 (by omega) (by omega)]
    have e4 : wrap64 ((j : Int) + 1) = ((j + 1 : Nat) : Int) := by rw [w64 (by omega) (by omega)]; rfl
    refine Ev.step (fun k => by simp only [impl_CostOk.l0]; rw [if_pos c1, e1, e4, if_pos c2, if_pos c3]) ?_
    simp only [diagGo]
    by_cases h : rd r ((j : Int) * 6 + j) = 0
    · simp only [if_pos h]; exact ih (j + 1) (by omega)
    · simp only [if_neg h]; exact Ev.now _
theorem impl_CostOk_no (a b r : List Int) : Ev (fun k => impl_CostOk.j0 k true a b r) false := by
  refine Ev.step (fun k => by rw [impl_CostOk.j0]) ?_
  simp only [if_true]; exact Ev.now _
theorem impl_CostOk_ev (a b r : List Int) (ha : a.length ≤ 1048576) (hb : b.length ≤ 1048576) (hr : r.length ≤ 1048576) : Ev (fun k => impl_CostOk.f k a b r) (costT a b r) := by
  unfold impl_CostOk.f costT
  simp only [impl_pricesOk_eq, Option.bind_some]
  by_cases h1 : pricesT a 6 = true
  · rw [h1]
    simp only [if_true]
    skip
    by_cases h2 : pricesT b 6 = true
    · rw [h2]
      simp only [if_true]
      skip
      by_cases h3 : pricesT r 36 = true
      · rw [h3]
        refine Ev.step (fun k => by rw [impl_CostOk.j0]) ?_
        simp only [Bool.not_true, Bool.false_eq_true, if_false, if_true]
        have hl := ((pricesT_iff r 36).1 h3).1
        exact impl_CostOk_l0 a b r (by omega) 6 0 rfl
      · rw [Bool.eq_false_iff.mpr h3]
        simp only [Bool.not_false, Bool.false_eq_true, if_false]
        exact impl_CostOk_no a b r
    · rw [Bool.eq_false_iff.mpr h2]
      simp only [Bool.false_eq_true, if_false]
      exact impl_CostOk_no a b r
  · rw [Bool.eq_false_iff.mpr h1]
    simp only [Bool.false_eq_true, if_false]
    exact impl_CostOk_no a b r

def finC (s : ByteArray) : Option (List Int × Nat) → List Int × List Int × List Int × Bool
  | none => ([], [], [], false)
  | some (l, a) => if a = s.size ∧ costT (l.take 6) ((l.take 12).drop 6) (l.drop 12) = true then (l.take 6, (l.take 12).drop 6, l.drop 12, true) else ([], [], [], false)
theorem getC_fin (s : ByteArray) : getC s = finC s (numsGo s 48 0 []) := by
  unfold getC finC
  cases numsGo s 48 0 [] <;> rfl
theorem w12c : wrap64 (2 * 6) = 12 := by decide +kernel
theorem w48c : wrap64 ((wrap64 (2 * 6)) + (wrap64 (6 * 6))) = 48 := by decide +kernel
theorem cutC_len (l : List Int) (h : l.length = 48) : (l.take 6).length = 6 ∧ ((l.take 12).drop 6).length = 6 ∧ (l.drop 12).length = 36 := by
  simp only [List.length_take, List.length_drop]; omega
theorem numsGo_yes (s : ByteArray) (d a : Nat) (acc : List Int) (c : ¬ (readVar (s.extract a s.size)).2 = 0) : numsGo s (d + 1) a acc = numsGo s d (a + (readVar (s.extract a s.size)).2.toNat) (acc ++ [(readVar (s.extract a s.size)).1]) := by
  simp only [numsGo]; exact if_neg c
theorem numsGo_no (s : ByteArray) (d a : Nat) (acc : List Int) (c : (readVar (s.extract a s.size)).2 = 0) : numsGo s (d + 1) a acc = none := by
  simp only [numsGo]; exact if_pos c

/-! impl_GetCost -/
theorem clone_eq (l : List Int) (h : l.length < 17592186044416) : slices_Clone_int_int.f l = some l := if_pos h
theorem toList_none_iff (s : ByteArray) : s.toList = ([] : List UInt8) ↔ s.size = 0 := by
  rw [toList_data]
  constructor
  · intro h; show s.data.size = 0; rw [← Array.length_toList, h]; rfl
  · intro h; exact List.length_eq_zero_iff.1 (by rw [Array.length_toList]; exact h)
theorem impl_GetCost_end (s : ByteArray) (a : Nat) (ha : a ≤ s.size) (l : List Int) (hl : l.length = 48) : Ev (fun k => impl_GetCost.l0 k l (s.extract a s.size) 48) (finC s (some (l, a))) := by
  obtain ⟨l1, l2, l3⟩ := cutC_len l hl
  refine Ev.step (fun k => by rw [impl_GetCost.l0]) ?_
  have b1 : (6 : Int) ≤ (l.length : Int) := by omega
  have b2 : (12 : Int) ≤ (l.length : Int) := by omega
  have m1 := clone_eq (l.take 6) (by omega)
  have m2 := clone_eq ((l.take 12).drop 6) (by omega)
  have m3 := clone_eq (l.drop 12) (by omega)
  have hz : (s.extract a s.size).toList = ([] : List UInt8) ↔ a = s.size := by rw [toList_none_iff, tail_size]; omega
  generalize s.extract a s.size = T at *
  have hf : finC s (some (l, a)) = if a = s.size ∧ costT (l.take 6) ((l.take 12).drop 6) (l.drop 12) = true then (l.take 6, (l.take 12).drop 6, l.drop 12, true) else ([], [], [], false) := rfl
  rw [hf]
  generalize l.take 6 = A at *
  generalize (l.take 12).drop 6 = B at *
  generalize l.drop 12 = C at *
  simp only [Int.lt_irrefl, if_false, m1, m2, m3, Option.bind_some, if_pos b1, if_pos b2, Int.reduceLE, if_true]
  by_cases h : a = s.size
  · simp only [if_pos (hz.2 h)]
    refine Ev.bind (impl_CostOk_ev A B C (by omega) (by omega) (by omega)) ?_
    by_cases hc : costT A B C = true
    · simp only [if_pos hc, if_pos (show a = s.size ∧ costT A B C = true from ⟨h, hc⟩)]; exact Ev.now _
    · simp only [if_neg hc, if_neg (show ¬ (a = s.size ∧ costT A B C = true) from fun q => hc q.2)]; exact Ev.now _
  · rw [if_neg (fun q => h q.1)]; simp only [if_neg (fun q => h (hz.1 q))]; exact Ev.now _
theorem impl_GetCost_l0 (s : ByteArray) (hs : s.size ≤ 1048576) (d : Nat) : ∀ (i a : Nat) (acc : List Int), i + d = 48 → a ≤ s.size → acc.length = i → Ev (fun k => impl_GetCost.l0 k acc (s.extract a s.size) i) (finC s (numsGo s d a acc)) := by
  induction d with
  | zero =>
    intro i a acc hi ha hacc
    obtain rfl : i = 48 := by omega
    exact impl_GetCost_end s a ha acc hacc
  | succ d ih =>
    intro i a acc hi ha hacc
    have hr := readVar_range (s.extract a s.size)
    have hts : (s.extract a s.size).size ≤ 140737488351232 := by rw [tail_size]; omega
    have c1 : (i : Int) < 48 := by omega
    have c4 : acc.length < 17592186044416 := by omega
    have e5 : wrap64 ((i : Int) + 1) = ((i + 1 : Nat) : Int) := by rw [w64 (by omega) (by omega)]; rfl
    refine Ev.step (fun k => by rw [impl_GetCost.l0, if_pos c1, e5]) ?_
    refine Ev.bind (impl_ReadVar_ev _ hts) ?_
    by_cases c : (readVar (s.extract a s.size)).2 = 0
    · simp only [if_pos c]
      rw [numsGo_no s d a acc c]
      exact Ev.now _
    · simp only [if_neg c, if_pos c4, if_pos hr.2.1, if_pos hr.2.2]
      rw [tail_tail s a _ ha, numsGo_yes s d a acc c]
      rw [tail_size] at hr
      exact ih (i + 1) _ _ (by omega) (by omega) (by rw [List.length_append, hacc]; rfl)
theorem impl_GetCost_ev (s : ByteArray) (hs : s.size ≤ 1048576) : Ev (fun k => impl_GetCost.f k s) (getC s) := by
  rw [getC_fin]
  have h := impl_GetCost_l0 s hs 48 0 0 [] rfl (by omega) rfl
  rw [tail_all] at h
  exact h

theorem catV_len : ∀ l : List Int, (catV l).size ≤ 8 * l.length
  | [] => Nat.le_refl _
  | x :: l => by
    have h := catV_len l
    have h2 := varS_size x
    simp only [catV, ByteArray.size_append, List.length_cons]; omega
theorem catV_drop (l : List Int) (j : Nat) (h : j < l.length) : catV (l.drop j) = varS (rd l (j : Int)) ++ catV (l.drop (j + 1)) := by
  rw [List.drop_eq_getElem_cons h]
  have e : rd l (j : Int) = l[j] := by unfold rd; simp [List.getD_eq_getElem?_getD, h]
  rw [e]; rfl
theorem nilB_app (s : ByteArray) : (⟨#[]⟩ : ByteArray) ++ s = s := by
  apply ba_ext; rw [toList_data, toList_data, ByteArray.data_append]; simp
theorem appB_nil (s : ByteArray) : s ++ (⟨#[]⟩ : ByteArray) = s := by
  apply ba_ext; rw [toList_data, toList_data, ByteArray.data_append]; simp

/-! impl_PutCost -/
theorem impl_PutCost_l0 (l : List Int) (hl : l.length ≤ 1048576) (d : Nat) : ∀ (j : Nat) (s : ByteArray), j + d = l.length → s.size ≤ 8 * j → Ev (fun k => impl_PutCost.l0 k s l (l.length : Int) j) (s ++ catV (l.drop j)) := by
  induction d with
  | zero =>
    intro j s hj hs
    have c0 : ¬ ((j : Int) < (l.length : Int)) := by omega
    refine Ev.step (f := fun _ => some s) (fun k => by rw [impl_PutCost.l0, if_neg c0]) ?_
    rw [List.drop_of_length_le (by omega)]
    simp only [catV, appB_nil]
    exact Ev.now _
  | succ d ih =>
    intro j s hj hs
    have c0 : (j : Int) < (l.length : Int) := by omega
    have c1 : (0 : Int) ≤ (j : Int) := Int.natCast_nonneg _
    have v1 := varS_size (rd l (j : Int))
    have s1 : s.size + (varS (rd l (j : Int))).size ≤ 9223372036854775807 := by omega
    have e4 : wrap64 ((j : Int) + 1) = ((j + 1 : Nat) : Int) := by rw [w64 (by omega) (by omega)]; rfl
    refine Ev.step (fun k => by rw [impl_PutCost.l0, if_pos c0, if_pos c1, if_pos c0, e4]) ?_
    refine Ev.bind (impl_Var_ev _) ?_
    simp only [if_pos s1]
    rw [catV_drop l j (by omega), ← ByteArray.append_assoc]
    exact ih (j + 1) _ (by omega) (by rw [ByteArray.size_append]; omega)
theorem impl_PutCost_ev (a b r : List Int) (ha : a.length ≤ 1048576) (hb : b.length ≤ 1048576) (hr : r.length ≤ 1048576) : Ev (fun k => impl_PutCost.f k a b r) (putC a b r) := by
  unfold impl_PutCost.f putC
  refine Ev.bind (impl_CostOk_ev a b r ha hb hr) ?_
  by_cases h : costT a b r = true
  · have hl := costT_len h
    have hf : slices_Concat_int_int.f [a, b, r] = some (a ++ b ++ r) := by
      unfold slices_Concat_int_int.f
      have e : [a, b, r].flatten = a ++ b ++ r := by simp
      rw [e, if_pos ⟨by simp; omega, by simp only [List.length_cons, List.length_nil]; omega⟩]
    simp only [if_pos h, hf, Option.bind_some]
    have := impl_PutCost_l0 (a ++ b ++ r) (by simp; omega) (a ++ b ++ r).length 0 ⟨#[]⟩ (by omega) (Nat.le_refl _)
    rw [List.drop_zero, nilB_app] at this
    exact this
  · simp only [if_neg h]; exact Ev.now _

/-! spec_l7In -/
theorem spec_l7In_l0 (l : List Int) (hl : l.length ≤ 1048576) (n : Int) (d : Nat) : ∀ j : Nat, j + d = l.length → (∀ x ∈ l.take j, 0 ≤ x ∧ x ≤ 1000) → Ev (fun k => spec_l7In.l0 k l n j) (pricesT l n) := by
  induction d with
  | zero =>
    intro j hj hall
    refine Ev.step (fun k => by simp only [spec_l7In.l0]; rw [if_neg (by omega)]) ?_
    refine evSome ?_
    rw [List.take_of_length_le (by omega)] at hall
    unfold pricesT
    rw [decide_eq_true hall, Bool.and_true]
    rfl
  | succ d ih =>
    intro j hj hall
    have hjl : j < l.length := by omega
    have c1 : (j : Int) < (l.length : Int) := by omega
    have c2 : (0 : Int) ≤ (j : Int) := by omega
    have e4 : wrap64 ((j : Int) + 1) = ((j + 1 : Nat) : Int) := by rw [w64 (by omega) (by omega)]; rfl
    have er : rd l (j : Int) = l[j] := by unfold rd; simp [List.getD_eq_getElem?_getD, List.getElem?_eq_getElem hjl]
    refine Ev.step (fun k => by simp only [spec_l7In.l0]; rw [if_pos c1, if_pos c2, e4, er]) ?_
    simp only [spec_l1In_eq, Option.bind_some, decide_eq_true_eq]
    by_cases h : 0 ≤ l[j] ∧ l[j] ≤ 1000
    · simp only [if_pos h]
      refine ih (j + 1) (by omega) ?_
      rw [List.take_succ_eq_append_getElem hjl]
      intro x hx
      rcases List.mem_append.1 hx with hx | hx
      · exact hall x hx
      · rw [List.mem_singleton.1 hx]; exact h
    · simp only [if_neg h]
      refine evSome ?_
      unfold pricesT
      rw [decide_eq_false (fun ha : ∀ x ∈ l, 0 ≤ x ∧ x ≤ 1000 => h (ha _ (List.getElem_mem hjl))), Bool.and_false]
theorem spec_l7In_ev (l : List Int) (hl : l.length ≤ 1048576) (n : Int) : Ev (fun k => spec_l7In.f k l n) (pricesT l n) := by
  unfold spec_l7In.f
  exact spec_l7In_l0 l hl n l.length 0 (by omega) (by simp)

/-! spec_CostOk -/
theorem spec_CostOk_l0 (a b r : List Int) (hr : r.length = 36) (d : Nat) : ∀ j : Nat, j + d = 6 → Ev (fun k => spec_CostOk.l0 k j a b r) (diagGo r d j) := by
  induction d with
  | zero =>
    intro j hj
    exact Ev.step (f := fun _ => some true) (fun k => by simp only [spec_CostOk.l0]; rw [if_neg (by omega)]) (Ev.now _)
  | succ d ih =>
    intro j hj
    have c1 : (j : Int) < 6 := by omega
    have c2 : (0 : Int) ≤ (j : Int) * 6 + j := by omega
    have c3 : (j : Int) * 6 + j < (r.length : Int) := by omega
    have e1 : wrap64 (wrap64 ((j : Int) * 6) + j) = (j : Int) * 6 + j := by rw [w64 (n := (j : Int) * 6) (by omega) (by omega), w64 (by omega) (by omega)]
    have e4 : wrap64 ((j : Int) + 1) = ((j + 1 : Nat) : Int) := by rw [w64 (by omega) (by omega)]; rfl
    refine Ev.step (fun k => by simp only [spec_CostOk.l0]; rw [if_pos c1, e1, e4, if_pos c2, if_pos c3]) ?_
    simp only [diagGo]
    by_cases h : rd r ((j : Int) * 6 + j) = 0
    · simp only [if_pos h]; exact ih (j + 1) (by omega)
    · simp only [if_neg h]; exact Ev.now _
theorem spec_CostOk_no (a b r : List Int) : Ev (fun k => spec_CostOk.j0 k true a b r) false := by
  refine Ev.step (fun k => by rw [spec_CostOk.j0]) ?_
  simp only [if_true]; exact Ev.now _
theorem spec_CostOk_ev (a b r : List Int) (ha : a.length ≤ 1048576) (hb : b.length ≤ 1048576) (hr : r.length ≤ 1048576) : Ev (fun k => spec_CostOk.f k a b r) (costT a b r) := by
  unfold spec_CostOk.f costT
  refine Ev.bind (spec_l7In_ev a ha 6) ?_
  by_cases h1 : pricesT a 6 = true
  · rw [h1]
    simp only [if_true]
    refine Ev.bind (spec_l7In_ev b hb 6) ?_
    by_cases h2 : pricesT b 6 = true
    · rw [h2]
      simp only [if_true]
      refine Ev.bind (spec_l7In_ev r hr 36) ?_
      by_cases h3 : pricesT r 36 = true
      · rw [h3]
        refine Ev.step (fun k => by rw [spec_CostOk.j0]) ?_
        simp only [Bool.not_true, Bool.false_eq_true, if_false, if_true]
        have hl := ((pricesT_iff r 36).1 h3).1
        exact spec_CostOk_l0 a b r (by omega) 6 0 rfl
      · rw [Bool.eq_false_iff.mpr h3]
        simp only [Bool.not_false, Bool.false_eq_true, if_false]
        exact spec_CostOk_no a b r
    · rw [Bool.eq_false_iff.mpr h2]
      simp only [Bool.false_eq_true, if_false]
      exact spec_CostOk_no a b r
  · rw [Bool.eq_false_iff.mpr h1]
    simp only [Bool.false_eq_true, if_false]
    exact spec_CostOk_no a b r

/-! spec_PutCost -/
theorem spec_PutCost_l0 (l : List Int) (hl : l.length ≤ 1048576) (d : Nat) : ∀ (j : Nat) (s : ByteArray), j + d = l.length → s.size ≤ 8 * j → Ev (fun k => spec_PutCost.l0 k s l j) (s ++ catV (l.drop j)) := by
  induction d with
  | zero =>
    intro j s hj hs
    have c0 : ¬ ((j : Int) < (l.length : Int)) := by omega
    refine Ev.step (f := fun _ => some s) (fun k => by rw [spec_PutCost.l0, if_neg c0]) ?_
    rw [List.drop_of_length_le (by omega)]
    simp only [catV, appB_nil]
    exact Ev.now _
  | succ d ih =>
    intro j s hj hs
    have c0 : (j : Int) < (l.length : Int) := by omega
    have c1 : (0 : Int) ≤ (j : Int) := Int.natCast_nonneg _
    have v1 := varS_size (rd l (j : Int))
    have s1 : s.size + (varS (rd l (j : Int))).size ≤ 9223372036854775807 := by omega
    have e4 : wrap64 ((j : Int) + 1) = ((j + 1 : Nat) : Int) := by rw [w64 (by omega) (by omega)]; rfl
    refine Ev.step (fun k => by rw [spec_PutCost.l0, if_pos c0, if_pos c1, e4]) ?_
    refine Ev.bind (spec_Var_ev _) ?_
    simp only [if_pos s1]
    rw [catV_drop l j (by omega), ← ByteArray.append_assoc]
    exact ih (j + 1) _ (by omega) (by rw [ByteArray.size_append]; omega)
theorem spec_PutCost_ev (a b r : List Int) (ha : a.length ≤ 1048576) (hb : b.length ≤ 1048576) (hr : r.length ≤ 1048576) : Ev (fun k => spec_PutCost.f k a b r) (putC a b r) := by
  unfold spec_PutCost.f putC
  refine Ev.bind (spec_CostOk_ev a b r ha hb hr) ?_
  by_cases h : costT a b r = true
  · have hl := costT_len h
    simp only [if_pos h, Option.bind_some, List.nil_append, List.length_nil, List.length_append]
    simp only [if_pos (show 0 + a.length < 17592186044416 by omega), if_pos (show 0 + a.length + b.length < 17592186044416 by omega), if_pos (show 0 + a.length + b.length + r.length < 17592186044416 by omega)]
    have := spec_PutCost_l0 (a ++ b ++ r) (by simp; omega) (a ++ b ++ r).length 0 ⟨#[]⟩ (by omega) (Nat.le_refl _)
    rw [List.drop_zero, nilB_app] at this
    exact this
  · simp only [if_neg h]; exact Ev.now _

/-! spec_DrawGetCost -/
theorem putC_size (a b r : List Int) : (putC a b r).size ≤ 1000 := by
  unfold putC
  by_cases h : costT a b r = true
  · rw [if_pos h]
    have h1 := catV_len (a ++ b ++ r)
    have h2 := costT_len h
    simp only [List.length_append] at h1
    omega
  · rw [if_neg h]; exact Nat.zero_le _
theorem drawGetCost_ok (c : List Int) (hc : c.length ≤ 1048576) : ∃ s, Ev (fun k => spec_DrawGetCost.f k c) s ∧ s.size ≤ 10000 := by
  obtain ⟨h, a⟩ := new_ok c hc
  obtain ⟨x, y, z, i1, h1, f1, hl, hi1⟩ := l7Cost_ok c hc 0 h (by omega)
  obtain ⟨v, i2, h2, f2, hv, hi2⟩ := below_ok c hc i1 h1 hi1 5
  have hl1 := hl.1
  have hl2 := hl.2.1
  have hl3 := hl.2.2
  have hp := spec_PutCost_ev x y z (by omega) (by omega) (by omega)
  have hs := putC_size x y z
  generalize putC x y z = p at hp hs
  suffices key : ∃ s, Ev (fun k => if v = 0 then ((spec_l1Spoil.f k c i2 h2 p).bind fun bt617 => (some bt617.1)) else (if v = 1 then ((spec_l1Below.f c i2 h2 (wrap64 ((p.size : Int) + 1))).bind fun bt620 => (if 0 ≤ bt620.1 then (if bt620.1 ≤ (p.size : Int) then (some (p.extract 0 (bt620.1 : Int).toNat)) else (none)) else (none))) else (if v = 2 then (if p.size + 1 ≤ 9223372036854775807 then (some (p ++ (⟨#[0]⟩ : ByteArray))) else (none)) else (some p)))) s ∧ s.size ≤ 10000 by
    obtain ⟨s, a1, a2⟩ := key
    refine ⟨s, ?_, a2⟩
    unfold spec_DrawGetCost.f
    refine Ev.bind a (Ev.bind f1 (Ev.bind hp ?_))
    simp only [f2, Option.bind_some]
    exact a1
  by_cases g0 : v = 0
  · obtain ⟨s, i3, h3, f3, hs3, _⟩ := spoil_ok c hc i2 h2 hi2 p (by omega)
    simp only [if_pos g0]
    exact ⟨s, Ev.bind f3 (Ev.now _), by omega⟩
  · simp only [if_neg g0]
    by_cases g1 : v = 1
    · simp only [if_pos g1]
      rw [show wrap64 ((p.size : Int) + 1) = (p.size : Int) + 1 from w64 (by omega) (by omega)]
      obtain ⟨y, i3, h3, f3, hy, _⟩ := below_ok c hc i2 h2 hi2 ((p.size : Int) + 1)
      have hlt := hy.2.1 (by omega)
      simp only [f3, Option.bind_some, if_pos hy.1, if_pos (show y ≤ (p.size : Int) by omega)]
      exact ⟨_, Ev.now _, by have := ext_size p 0 y.toNat; omega⟩
    · simp only [if_neg g1]
      by_cases g2 : v = 2
      · simp only [if_pos g2, if_pos (show p.size + 1 ≤ 9223372036854775807 by omega)]
        exact ⟨_, Ev.now _, by rw [ByteArray.size_append]; have : (⟨#[0]⟩ : ByteArray).size = 1 := rfl; omega⟩
      · simp only [if_neg g2]
        exact ⟨_, Ev.now _, by omega⟩

/-! spec_GetCost -/
theorem spec_GetCost_end (s : ByteArray) (a : Nat) (l : List Int) (hl : l.length = 48) : Ev (fun k => spec_GetCost.l0 k s l a 6 48) (finC s (some (l, a))) := by
  obtain ⟨l1, l2, l3⟩ := cutC_len l hl
  refine Ev.step (fun k => by rw [spec_GetCost.l0, w48c, w12c]) ?_
  have b1 : (6 : Int) ≤ (l.length : Int) := by omega
  have b2 : (12 : Int) ≤ (l.length : Int) := by omega
  have m1 : (l.take 6).length < 17592186044416 := by omega
  have m2 : ((l.take 12).drop 6).length < 17592186044416 := by omega
  have m3 : (l.drop 12).length < 17592186044416 := by omega
  rw [show (6 : Int).toNat = 6 from rfl, show (12 : Int).toNat = 12 from rfl]
  generalize hA : l.take 6 = A at *
  generalize hB : (l.take 12).drop 6 = B at *
  generalize hC : l.drop 12 = C at *
  simp only [Int.lt_irrefl, if_false, Option.bind_some, List.length_nil, List.nil_append, Nat.zero_add, if_pos b1, if_pos b2, if_pos m1, if_pos m2, if_pos m3, Int.reduceLE, if_true]
  have hf : finC s (some (l, a)) = if a = s.size ∧ costT A B C = true then (A, B, C, true) else ([], [], [], false) := by
    show (if _ then _ else _) = _
    rw [hA, hB, hC]
  rw [hf]
  by_cases h : (a : Int) = (s.size : Int)
  · simp only [if_pos h]
    refine Ev.bind (spec_CostOk_ev A B C (by omega) (by omega) (by omega)) ?_
    by_cases hc : costT A B C = true
    · simp only [if_pos hc, if_pos (show a = s.size ∧ costT A B C = true from ⟨by omega, hc⟩)]; exact Ev.now _
    · simp only [if_neg hc, if_neg (show ¬ (a = s.size ∧ costT A B C = true) from fun q => hc q.2)]; exact Ev.now _
  · rw [if_neg (fun q => h (by rw [q.1]))]; simp only [if_neg h]; exact Ev.now _
theorem spec_GetCost_l0 (s : ByteArray) (hs : s.size ≤ 1048576) (d : Nat) : ∀ (i a : Nat) (acc : List Int), i + d = 48 → a ≤ s.size → acc.length = i → Ev (fun k => spec_GetCost.l0 k s acc a 6 i) (finC s (numsGo s d a acc)) := by
  induction d with
  | zero =>
    intro i a acc hi ha hacc
    obtain rfl : i = 48 := by omega
    exact spec_GetCost_end s a acc hacc
  | succ d ih =>
    intro i a acc hi ha hacc
    have hr := readVar_range (s.extract a s.size)
    rw [tail_size] at hr
    have c1 : (i : Int) < 48 := by omega
    have c4 : acc.length < 17592186044416 := by omega
    have e5 : wrap64 ((i : Int) + 1) = ((i + 1 : Nat) : Int) := by rw [w64 (by omega) (by omega)]; rfl
    refine Ev.step (fun k => by rw [spec_GetCost.l0, w48c, w12c, if_pos c1, e5]) ?_
    refine Ev.bind (spec_l4Num_ev s hs a ha) ?_
    by_cases c : (readVar (s.extract a s.size)).2 = 0
    · have en : numAt s a = (0, -1) := if_pos c
      have c3 : (numAt s a).2 < 0 := by rw [en]; decide
      simp only [if_pos c3]
      rw [numsGo_no s d a acc c]
      exact Ev.now _
    · have en : numAt s a = ((readVar (s.extract a s.size)).1, (a : Int) + (readVar (s.extract a s.size)).2) := if_neg c
      have e6 : (numAt s a).2 = ((a + (readVar (s.extract a s.size)).2.toNat : Nat) : Int) := by rw [en]; show (a : Int) + _ = _; omega
      have e7 : (numAt s a).1 = (readVar (s.extract a s.size)).1 := by rw [en]
      have c3 : ¬ (numAt s a).2 < 0 := by rw [e6]; omega
      simp only [if_neg c3, if_pos c4]
      rw [e6, e7, numsGo_yes s d a acc c]
      exact ih (i + 1) _ _ (by omega) (by omega) (by rw [List.length_append, hacc]; rfl)
theorem spec_GetCost_ev (s : ByteArray) (hs : s.size ≤ 1048576) : Ev (fun k => spec_GetCost.f k s) (getC s) := by
  rw [getC_fin]
  exact spec_GetCost_l0 s hs 48 0 0 [] rfl (by omega) rfl

/-! spec_l7Same -/
theorem spec_l7Same_l0 (a b : List Int) (ha : a.length ≤ 1048576) (hb : b.length = a.length) (d : Nat) : ∀ j : Nat, j + d = a.length → Ev (fun k => spec_l7Same.l0 k a b j) (eqGo a b d j) := by
  induction d with
  | zero =>
    intro j hj
    exact Ev.step (f := fun _ => some true) (fun k => by simp only [spec_l7Same.l0]; rw [if_neg (by omega)]) (Ev.now _)
  | succ d ih =>
    intro j hj
    have c1 : (j : Int) < (a.length : Int) := by omega
    have c2 : (0 : Int) ≤ (j : Int) := by omega
    have c3 : (j : Int) < (b.length : Int) := by omega
    have e4 : wrap64 ((j : Int) + 1) = ((j + 1 : Nat) : Int) := by rw [w64 (by omega) (by omega)]; rfl
    refine Ev.step (fun k => by simp only [spec_l7Same.l0]; rw [if_pos c1, if_pos c2, if_pos c3, e4]) ?_
    simp only [eqGo]
    by_cases h : rd a (j : Int) = rd b (j : Int)
    · simp only [if_pos h]; exact ih (j + 1) (by omega)
    · simp only [if_neg h]; exact Ev.now _
theorem spec_l7Same_ev (a b : List Int) (ha : a.length ≤ 1048576) : Ev (fun k => spec_l7Same.f k a b) (eqT a b) := by
  unfold spec_l7Same.f eqT
  by_cases h : a.length = b.length
  · rw [if_pos h]
    simp only [if_pos (show (a.length : Int) = (b.length : Int) by omega)]
    exact spec_l7Same_l0 a b ha h.symm a.length 0 (by omega)
  · rw [if_neg h]
    simp only [if_neg (show ¬ (a.length : Int) = (b.length : Int) by omega)]; exact Ev.now _

/-! spec_SameCost -/
theorem spec_SameCost_ev (a b c x y z : List Int) (ha : a.length ≤ 1048576) (hb : b.length ≤ 1048576) (hc : c.length ≤ 1048576) : Ev (fun k => spec_SameCost.f k a b c x y z) (eqC a b c x y z) := by
  unfold spec_SameCost.f eqC
  refine Ev.bind (spec_l7Same_ev a x ha) ?_
  by_cases h1 : eqT a x = true
  · rw [h1]
    simp only [if_true]
    refine Ev.bind (spec_l7Same_ev b y hb) ?_
    by_cases h2 : eqT b y = true
    · rw [h2]
      simp only [if_true]
      exact Ev.bind (spec_l7Same_ev c z hc) (Ev.now _)
    · rw [Bool.eq_false_iff.mpr h2]
      simp only [Bool.false_eq_true, if_false]; exact Ev.now _
  · rw [Bool.eq_false_iff.mpr h1]
    simp only [Bool.false_eq_true, if_false]; exact Ev.now _

/-! slices_Equal_int_int -/
theorem slices_Equal_int_int_l0 (a b : List Int) (ha : a.length ≤ 1048576) (hb : b.length = a.length) (d : Nat) : ∀ j : Nat, j + d = a.length → Ev (fun k => slices_Equal_int_int.l0 k a b a.length j) (eqGo a b d j) := by
  induction d with
  | zero =>
    intro j hj
    exact Ev.step (f := fun _ => some true) (fun k => by simp only [slices_Equal_int_int.l0]; rw [if_neg (by omega)]) (Ev.now _)
  | succ d ih =>
    intro j hj
    have c1 : (j : Int) < (a.length : Int) := by omega
    have c2 : (0 : Int) ≤ (j : Int) := by omega
    have c3 : (j : Int) < (b.length : Int) := by omega
    have e4 : wrap64 ((j : Int) + 1) = ((j + 1 : Nat) : Int) := by rw [w64 (by omega) (by omega)]; rfl
    refine Ev.step (fun k => by simp only [slices_Equal_int_int.l0]; rw [if_pos c1, if_pos c2, if_pos c1, if_pos c3, e4]) ?_
    simp only [eqGo]
    by_cases h : rd a (j : Int) = rd b (j : Int)
    · simp only [if_pos h]; exact ih (j + 1) (by omega)
    · simp only [if_neg h]; exact Ev.now _
theorem slices_Equal_int_int_ev (a b : List Int) (ha : a.length ≤ 1048576) : Ev (fun k => slices_Equal_int_int.f k a b) (eqT a b) := by
  unfold slices_Equal_int_int.f eqT
  by_cases h : a.length = b.length
  · rw [if_pos h]
    simp only [if_pos (show (a.length : Int) = (b.length : Int) by omega)]
    exact slices_Equal_int_int_l0 a b ha h.symm a.length 0 (by omega)
  · rw [if_neg h]
    simp only [if_neg (show ¬ (a.length : Int) = (b.length : Int) by omega)]; exact Ev.now _

/-! impl_SameCost -/
theorem impl_SameCost_ev (a b c x y z : List Int) (ha : a.length ≤ 1048576) (hb : b.length ≤ 1048576) (hc : c.length ≤ 1048576) : Ev (fun k => impl_SameCost.f k a b c x y z) (eqC a b c x y z) := by
  unfold impl_SameCost.f eqC
  refine Ev.bind (slices_Equal_int_int_ev a x ha) ?_
  by_cases h1 : eqT a x = true
  · rw [h1]
    simp only [if_true]
    refine Ev.bind (slices_Equal_int_int_ev b y hb) ?_
    by_cases h2 : eqT b y = true
    · rw [h2]
      simp only [if_true]
      exact Ev.bind (slices_Equal_int_int_ev c z hc) (Ev.now _)
    · rw [Bool.eq_false_iff.mpr h2]
      simp only [Bool.false_eq_true, if_false]; exact Ev.now _
  · rw [Bool.eq_false_iff.mpr h1]
    simp only [Bool.false_eq_true, if_false]; exact Ev.now _

-- imports: NV
/-! Trees -/
def catT (l : List S46) : Nat → Nat → ByteArray
  | 0, _ => ⟨#[]⟩
  | d + 1, j => varS (lab l j) ++ (varS (dep l j) ++ catT l d (j + 1))
theorem putGo_cat (l : List S46) (d : Nat) : ∀ (j : Nat) (s : ByteArray), putGo l d j s = s ++ catT l d j := by
  induction d with
  | zero => intro j s; simp only [putGo, catT]; exact (appB_nil s).symm
  | succ d ih =>
    intro j s
    simp only [putGo, catT]
    rw [ih, ByteArray.append_assoc, ByteArray.append_assoc]
theorem varS_pos {n : Int} (h0 : 0 ≤ n) (h1 : n ≤ 562949953421311) : 0 < (varS n).size := by
  have hv : varS n = strOfNums (varB n.toNat) := by unfold varS; rw [if_pos ⟨h0, h1⟩]
  rw [hv, strOfNums_size]
  exact varB_pos _
/-- What stands behind a number that was read. -/
theorem read_rest (s t : ByteArray) (a : Nat) (n : Int) (ha : a ≤ s.size) (h0 : 0 ≤ n) (h1 : n ≤ 562949953421311) (h : s.extract a s.size = varS n ++ t) :
    readVar (s.extract a s.size) = (n, ((varS n).size : Int)) ∧ s.extract (a + (varS n).size) s.size = t ∧ a + (varS n).size ≤ s.size ∧ ((varS n).size : Int) ≠ 0 := by
  have hz := congrArg ByteArray.size h
  rw [tail_size, ByteArray.size_append] at hz
  refine ⟨by rw [h]; exact readVar_fwd n h0 h1 t, ?_, by have := varS_pos h0 h1; omega, by have := varS_pos h0 h1; omega⟩
  rw [← tail_tail s a (varS n).size ha, h, app_tail]
theorem take_snocT (l : List S46) (i : Nat) (h : i < l.length) : l.take i ++ [(⟨lab l i, dep l i⟩ : S46)] = l.take (i + 1) := by
  rw [List.take_succ_eq_append_getElem h]
  have e : l.getD i z46 = l[i] := by simp [List.getD_eq_getElem?_getD, h]
  show l.take i ++ [(⟨(l.getD i z46).f0, (l.getD i z46).f1⟩ : S46)] = _
  rw [e]
theorem dep_take (l : List S46) (i j : Nat) (h : j < i) (hi : i ≤ l.length) : dep (l.take i) j = dep l j := by
  show ((l.take i).getD j z46).f1 = (l.getD j z46).f1
  rw [List.getD_eq_getElem?_getD, List.getD_eq_getElem?_getD, List.getElem?_take, if_pos h]
theorem getGo_fwd (l : List S46) (ht : treeP (lab l) (dep l) l.length) (s : ByteArray) (d : Nat) : ∀ (i a : Nat), i + d = l.length → a ≤ s.size → s.extract a s.size = catT l d i → getGo s d i a (l.take i) = (l, 0) := by
  induction d with
  | zero =>
    intro i a hi ha h
    simp only [catT] at h
    have hz := congrArg ByteArray.size h
    rw [tail_size] at hz
    have e : (⟨#[]⟩ : ByteArray).size = 0 := rfl
    simp only [getGo]
    rw [if_pos (by omega), List.take_of_length_le (by omega)]
  | succ d ih =>
    intro i a hi ha h
    have hl := lab_range ht (i := i) (by omega)
    have hd := dep_range ht (i := i) (by omega)
    simp only [catT] at h
    obtain ⟨r1, r2, r3, r4⟩ := read_rest s _ a _ ha hl.1 (by omega) h
    obtain ⟨q1, q2, q3, q4⟩ := read_rest s _ (a + (varS (lab l i)).size) _ r3 hd.1 (by omega) r2
    simp only [getGo]
    rw [r1]
    simp only [Int.toNat_natCast]
    rw [q1]
    simp only [Int.toNat_natCast]
    have hs : shapeP (l.take i) i (dep l i) := by
      refine ⟨fun h0 => by subst h0; exact dep_zero ht, fun h0 => ?_⟩
      have := dep_step ht h0 (i := i) (by omega)
      rw [dep_take l i (i - 1) (by omega) (by omega)]
      exact this
    rw [if_neg r4, if_neg (fun h => h hl), if_neg q4, if_neg (by omega), if_neg (fun h => h hs), take_snocT l i (by omega)]
    exact ih (i + 1) _ (by omega) q3 q2
theorem getT_put (l : List S46) (h : treeB (lab l) (dep l) l.length = true) : getT (putT l) = (l, 0) := by
  have ht := treeB_iff.1 h
  have e : putT l = varS l.length ++ catT l l.length 0 := by unfold putT; rw [if_pos h, putGo_cat]
  obtain ⟨r1, r2, r3, r4⟩ := read_rest (putT l) (catT l l.length 0) 0 l.length (Nat.zero_le _) (by omega) (by have := ht.1.2; omega) (by rw [tail_all]; exact e)
  rw [tail_all] at r1
  unfold getT
  simp only
  rw [r1]
  simp only [Int.toNat_natCast]
  rw [if_neg r4, if_neg (fun h => h ⟨by have := ht.1.1; omega, by have := ht.1.2; omega⟩)]
  rw [Nat.zero_add] at r2 r3
  exact getGo_fwd l ht (putT l) l.length 0 (varS l.length).size (by omega) r3 r2
theorem putT_pos (l : List S46) (h : treeB (lab l) (dep l) l.length = true) : (putT l).toList ≠ [] := by
  have ht := treeB_iff.1 h
  have e : putT l = varS l.length ++ catT l l.length 0 := by unfold putT; rw [if_pos h, putGo_cat]
  have hp := varS_pos (n := l.length) (by omega) (by have := ht.1.2; omega)
  intro h0
  have h1 := (toList_none_iff _).1 h0
  rw [e, ByteArray.size_append] at h1
  omega
theorem getT_nil : getT (⟨#[]⟩ : ByteArray) = ([], 1) := rfl
theorem getGo_code (s : ByteArray) (d : Nat) : ∀ (i a : Nat) (acc : List S46), ((getGo s d i a acc).2 ≠ 0 → (getGo s d i a acc).1 = []) ∧ 0 ≤ (getGo s d i a acc).2 ∧ (getGo s d i a acc).2 ≤ 6 := by
  induction d with
  | zero => intro i a acc; simp only [getGo]; split <;> simp
  | succ d ih =>
    intro i a acc
    simp only [getGo]
    split
    · simp
    split
    · simp
    split
    · simp
    split
    · simp
    split
    · simp
    exact ih _ _ _
theorem getT_code (s : ByteArray) : ((getT s).2 ≠ 0 → (getT s).1 = []) ∧ 0 ≤ (getT s).2 ∧ (getT s).2 ≤ 6 := by
  unfold getT
  simp only
  split
  · simp
  split
  · simp
  exact getGo_code _ _ _ _ _
theorem getGo_back (s : ByteArray) (x : List S46) (d : Nat) : ∀ (i a : Nat) (acc : List S46), a ≤ s.size → acc.length = i → getGo s d i a acc = (x, 0) →
    x.length = i + d ∧ x.take i = acc ∧ (∀ j, i ≤ j → j < i + d → nodeOk (lab x) (dep x) j) ∧ s.extract a s.size = catT x d i := by
  induction d with
  | zero =>
    intro i a acc ha hl h
    simp only [getGo] at h
    by_cases c : a = s.size
    · rw [if_pos c, Prod.mk.injEq] at h
      obtain ⟨rfl, _⟩ := h
      refine ⟨by omega, List.take_of_length_le (by omega), fun j h1 h2 => by omega, ?_⟩
      simp only [catT]
      subst c
      apply ba_ext
      rw [(toList_none_iff _).2 (by rw [tail_size]; omega)]
      exact ((toList_none_iff _).2 rfl).symm
    · rw [if_neg c, Prod.mk.injEq] at h
      omega
  | succ d ih =>
    intro i a acc ha hl h
    simp only [getGo] at h
    by_cases c1 : (readVar (s.extract a s.size)).2 = 0
    · rw [if_pos c1, Prod.mk.injEq] at h; omega
    rw [if_neg c1] at h
    by_cases c2 : 0 ≤ (readVar (s.extract a s.size)).1 ∧ (readVar (s.extract a s.size)).1 ≤ 5
    case neg => rw [if_pos c2, Prod.mk.injEq] at h; omega
    rw [if_neg (fun h => h c2)] at h
    have hb := readVar_back _ c1
    have hr := readVar_range (s.extract a s.size)
    rw [tail_size] at hr
    have e1 := tail_app s a (readVar (s.extract a s.size)).2.toNat (by omega)
    rw [hb.2.1] at e1
    generalize (readVar (s.extract a s.size)).1 = lb at *
    generalize hk : (readVar (s.extract a s.size)).2.toNat = k1 at *
    have ha2 : a + k1 ≤ s.size := by omega
    by_cases c3 : (readVar (s.extract (a + k1) s.size)).2 = 0
    · rw [if_pos c3, Prod.mk.injEq] at h; omega
    rw [if_neg c3] at h
    by_cases c4 : (readVar (s.extract (a + k1) s.size)).1 > 12
    · rw [if_pos c4, Prod.mk.injEq] at h; omega
    rw [if_neg c4] at h
    by_cases c5 : shapeP acc i (readVar (s.extract (a + k1) s.size)).1
    case neg => rw [if_pos c5, Prod.mk.injEq] at h; omega
    rw [if_neg (fun h => h c5)] at h
    have hb2 := readVar_back _ c3
    have hr2 := readVar_range (s.extract (a + k1) s.size)
    rw [tail_size] at hr2
    have e2 := tail_app s (a + k1) (readVar (s.extract (a + k1) s.size)).2.toNat (by omega)
    rw [hb2.2.1] at e2
    generalize (readVar (s.extract (a + k1) s.size)).1 = q at *
    generalize hk2 : (readVar (s.extract (a + k1) s.size)).2.toNat = k2 at *
    obtain ⟨i1, i2, i3, i4⟩ := ih (i + 1) (a + k1 + k2) (acc ++ [⟨lb, q⟩]) (by omega) (by simp; omega) h
    have hx : x.getD i z46 = ⟨lb, q⟩ := by
      have h1 : (x.take (i + 1)).getD i z46 = x.getD i z46 := by rw [List.getD_eq_getElem?_getD, List.getD_eq_getElem?_getD, List.getElem?_take, if_pos (by omega)]
      rw [← h1, i2, List.getD_eq_getElem?_getD, List.getElem?_append_right (by omega), hl, Nat.sub_self]
      rfl
    have hta : x.take i = acc := by
      have h1 := congrArg (List.take i) i2
      rw [List.take_take, Nat.min_eq_left (by omega), List.take_append_of_le_length (by omega), List.take_of_length_le (l := acc) (by omega)] at h1
      exact h1
    have hlab : lab x i = lb := by show (x.getD i z46).f0 = lb; rw [hx]
    have hdep : dep x i = q := by show (x.getD i z46).f1 = q; rw [hx]
    refine ⟨by omega, hta, fun j h1 h2 => ?_, ?_⟩
    · by_cases hj : j = i
      · subst hj
        unfold nodeOk
        rw [hlab, hdep]
        refine ⟨c2.1, c2.2, hb2.1.1, by omega, c5.1, fun h0 => ?_⟩
        have := c5.2 h0
        rw [← hta, dep_take x j (j - 1) (by omega) (by omega)] at this
        exact this
      · exact i3 j (by omega) (by omega)
    · simp only [catT]
      rw [hlab, hdep, e1, e2, i4]
theorem putT_get (t : ByteArray) (x : List S46) (h : getT t = (x, 0)) : putT x = t := by
  unfold getT at h
  simp only at h
  by_cases c1 : (readVar t).2 = 0
  · rw [if_pos c1, Prod.mk.injEq] at h; omega
  rw [if_neg c1] at h
  by_cases c2 : 1 ≤ (readVar t).1 ∧ (readVar t).1 ≤ 24
  case neg => rw [if_pos c2, Prod.mk.injEq] at h; omega
  rw [if_neg (fun h => h c2)] at h
  have hr := readVar_range t
  have hb := readVar_back t c1
  obtain ⟨i1, _, i3, i4⟩ := getGo_back t x _ 0 _ [] (by omega) rfl h
  have e1 := tail_app t 0 (readVar t).2.toNat (by omega)
  rw [tail_all, hb.2.1, Nat.zero_add, i4] at e1
  have ht : treeB (lab x) (dep x) x.length = true := treeB_iff.2 ⟨⟨by omega, by omega⟩, fun j hj => i3 j (Nat.zero_le _) (by omega)⟩
  unfold putT
  rw [if_pos ht, putGo_cat]
  have e2 : (x.length : Int) = (readVar t).1 := by omega
  have e3 : x.length = (readVar t).1.toNat := by omega
  rw [e2]
  rw [← e3] at e1
  exact e1.symm
theorem sameGo_refl (l : List S46) (d : Nat) : ∀ j, sameGo l l d j = true := by
  induction d with
  | zero => intro j; rfl
  | succ d ih => intro j; simp only [sameGo]; rw [if_neg (by simp)]; exact ih _
theorem sameT_refl (l : List S46) : sameT l l = true := by unfold sameT; rw [if_pos rfl]; exact sameGo_refl _ _ _
/-! Costs -/
theorem numsGo_fwd (s : ByteArray) (l : List Int) : ∀ (a : Nat) (acc : List Int), a ≤ s.size → (∀ x ∈ l, 0 ≤ x ∧ x ≤ 1000) → s.extract a s.size = catV l → numsGo s l.length a acc = some (acc ++ l, s.size) := by
  induction l with
  | nil =>
    intro a acc ha _ h
    simp only [catV] at h
    have hz := congrArg ByteArray.size h
    rw [tail_size] at hz
    have e : (⟨#[]⟩ : ByteArray).size = 0 := rfl
    simp only [List.length_nil, numsGo, List.append_nil]
    rw [show a = s.size by omega]
  | cons x l ih =>
    intro a acc ha hx h
    simp only [catV] at h
    have h1 := hx x (by simp)
    obtain ⟨r1, r2, r3, r4⟩ := read_rest s _ a x ha h1.1 (by omega) h
    rw [List.length_cons, numsGo_yes s _ a acc (by rw [r1]; exact r4), r1]
    simp only [Int.toNat_natCast]
    rw [ih _ _ r3 (fun y hy => hx y (by simp [hy])) r2, List.append_assoc, List.singleton_append]
theorem costT_prices {a b r : List Int} (h : costT a b r = true) : ∀ x ∈ a ++ b ++ r, 0 ≤ x ∧ x ≤ 1000 := by
  unfold costT at h
  by_cases h1 : pricesT a 6 = true
  case neg => rw [if_neg h1] at h; cases h
  by_cases h2 : pricesT b 6 = true
  case neg => rw [if_pos h1, if_neg h2] at h; cases h
  by_cases h3 : pricesT r 36 = true
  case neg => rw [if_pos h1, if_pos h2, if_neg h3] at h; cases h
  intro x hx
  simp only [List.mem_append] at hx
  rcases hx with (hx | hx) | hx
  · exact ((pricesT_iff a 6).1 h1).2 x hx
  · exact ((pricesT_iff b 6).1 h2).2 x hx
  · exact ((pricesT_iff r 36).1 h3).2 x hx
theorem getC_put (a b r : List Int) (h : costT a b r = true) : getC (putC a b r) = (a, b, r, true) := by
  have hl := costT_len h
  have e : putC a b r = catV (a ++ b ++ r) := by unfold putC; rw [if_pos h]
  have h1 := numsGo_fwd (putC a b r) (a ++ b ++ r) 0 [] (Nat.zero_le _) (costT_prices h) (by rw [tail_all]; exact e)
  rw [show (a ++ b ++ r).length = 48 by simp only [List.length_append]; omega, List.nil_append] at h1
  have t1 : (a ++ b ++ r).take 6 = a := by rw [List.append_assoc, List.take_append_of_le_length (by omega), List.take_of_length_le (by omega)]
  have t2 : ((a ++ b ++ r).take 12).drop 6 = b := by
    rw [List.take_append_of_le_length (by simp only [List.length_append]; omega), List.take_of_length_le (by simp only [List.length_append]; omega), ← hl.1, List.drop_left]
  have t3 : (a ++ b ++ r).drop 12 = r := by rw [show 12 = (a ++ b).length by simp only [List.length_append]; omega, List.drop_left]
  rw [getC_fin, h1]
  show (if _ then _ else _) = _
  rw [t1, t2, t3, if_pos ⟨rfl, h⟩]
theorem getC_nil : getC (⟨#[]⟩ : ByteArray) = ([], [], [], false) := rfl
theorem numsGo_back (s : ByteArray) (d : Nat) : ∀ (a : Nat) (acc l : List Int) (e : Nat), a ≤ s.size → numsGo s d a acc = some (l, e) → ∃ m, l = acc ++ m ∧ s.extract a s.size = catV m ++ s.extract e s.size := by
  induction d with
  | zero =>
    intro a acc l e ha h
    simp only [numsGo, Option.some.injEq, Prod.mk.injEq] at h
    exact ⟨[], by rw [← h.1, List.append_nil], by rw [← h.2]; simp only [catV]; exact (nilB_app _).symm⟩
  | succ d ih =>
    intro a acc l e ha h
    by_cases c : (readVar (s.extract a s.size)).2 = 0
    · rw [numsGo_no s d a acc c] at h; cases h
    · rw [numsGo_yes s d a acc c] at h
      have hr := readVar_range (s.extract a s.size)
      rw [tail_size] at hr
      have hb := readVar_back _ c
      have e1 := tail_app s a (readVar (s.extract a s.size)).2.toNat (by omega)
      rw [hb.2.1] at e1
      obtain ⟨m, m1, m2⟩ := ih _ _ _ _ (by omega) h
      refine ⟨(readVar (s.extract a s.size)).1 :: m, by rw [m1, List.append_assoc, List.singleton_append], ?_⟩
      simp only [catV]
      generalize s.extract a s.size = A at *
      rw [ByteArray.append_assoc, ← m2]
      exact e1
theorem putC_get (u : ByteArray) (a b r : List Int) (h : getC u = (a, b, r, true)) : putC a b r = u := by
  rw [getC_fin] at h
  cases hn : numsGo u 48 0 [] with
  | none => rw [hn] at h; cases h
  | some v =>
    obtain ⟨l, e⟩ := v
    rw [hn] at h
    change (if _ then _ else _) = _ at h
    split at h
    · rename_i hc
      simp only [Prod.mk.injEq, and_true] at h
      obtain ⟨rfl, rfl, rfl⟩ := h
      obtain ⟨m, m1, m2⟩ := numsGo_back u 48 0 [] l e (Nat.zero_le _) hn
      rw [tail_all, hc.1] at m2
      have hz : u.extract u.size u.size = ⟨#[]⟩ := by
        apply ba_ext
        rw [(toList_none_iff _).2 (by rw [tail_size]; omega)]
        exact ((toList_none_iff _).2 rfl).symm
      rw [hz, appB_nil] at m2
      rw [List.nil_append] at m1
      subst m1
      unfold putC
      rw [if_pos hc.2]
      have t12 : l.take 6 ++ (l.take 12).drop 6 = l.take 12 := by
        have h1 := List.take_append_drop 6 (l.take 12)
        rw [List.take_take] at h1
        exact h1
      rw [t12, List.take_append_drop]
      exact m2.symm
    · simp at h
theorem eqGo_refl (l : List Int) (d : Nat) : ∀ j, eqGo l l d j = true := by
  induction d with
  | zero => intro j; rfl
  | succ d ih => intro j; simp only [eqGo]; simp [ih]
theorem eqC_refl (a b r : List Int) : eqC a b r a b r = true := by simp [eqC, eqT, eqGo_refl]
theorem getC_small (s : ByteArray) : (getC s).1.length ≤ 36 ∧ (getC s).2.1.length ≤ 36 ∧ (getC s).2.2.1.length ≤ 36 := by
  rw [getC_fin]
  cases h : numsGo s 48 0 [] with
  | none => exact ⟨Nat.zero_le _, Nat.zero_le _, Nat.zero_le _⟩
  | some v =>
    obtain ⟨l, a⟩ := v
    have hl := (numsGo_len s 48 0 [] l a (Nat.zero_le _) h).1
    have hc := cutC_len l (by rw [hl]; rfl)
    show (if _ then _ else _ : List Int × List Int × List Int × Bool).1.length ≤ 36 ∧ (if _ then _ else _ : List Int × List Int × List Int × Bool).2.1.length ≤ 36 ∧ (if _ then _ else _ : List Int × List Int × List Int × Bool).2.2.1.length ≤ 36
    split
    · dsimp only; omega
    · exact ⟨Nat.zero_le _, Nat.zero_le _, Nat.zero_le _⟩
theorem treeCode_pos (d : Int) (h0 : 0 ≤ d) (h1 : d ≤ 6) : ∃ code, impl_TreeCode.f d = some code ∧ code.toList ≠ [] := by
  have : d = 0 ∨ d = 1 ∨ d = 2 ∨ d = 3 ∨ d = 4 ∨ d = 5 ∨ d = 6 := by omega
  rcases this with rfl | rfl | rfl | rfl | rfl | rfl | rfl
  · exact ⟨⟨#[111, 107]⟩, rfl, fun h => absurd ((toList_none_iff _).1 h) (by decide)⟩
  · exact ⟨⟨#[115, 104, 111, 114, 116]⟩, rfl, fun h => absurd ((toList_none_iff _).1 h) (by decide)⟩
  · exact ⟨⟨#[115, 105, 122, 101]⟩, rfl, fun h => absurd ((toList_none_iff _).1 h) (by decide)⟩
  · exact ⟨⟨#[108, 97, 98, 101, 108]⟩, rfl, fun h => absurd ((toList_none_iff _).1 h) (by decide)⟩
  · exact ⟨⟨#[100, 101, 112, 116, 104]⟩, rfl, fun h => absurd ((toList_none_iff _).1 h) (by decide)⟩
  · exact ⟨⟨#[115, 104, 97, 112, 101]⟩, rfl, fun h => absurd ((toList_none_iff _).1 h) (by decide)⟩
  · exact ⟨⟨#[108, 101, 102, 116]⟩, rfl, fun h => absurd ((toList_none_iff _).1 h) (by decide)⟩
set_option maxHeartbeats 4000000 in
theorem law : laws_FnBytes.Pure := by
  intro c hc _
  obtain ⟨l, ⟨k1, f1⟩, hl⟩ := drawPutTree_ok c hc
  obtain ⟨k2, f2⟩ := impl_PutTree_ev l (by omega)
  have hs := putT_size l
  obtain ⟨k3, f3⟩ := impl_GetTree_ev (putT l) (by omega)
  obtain ⟨k4, f4⟩ := spec_TreeOk_ev l (by omega)
  obtain ⟨k5, f5⟩ := spec_SameTree_ev l l (by omega)
  obtain ⟨t, ⟨k6, f6⟩, ht⟩ := drawGetTree_ok c hc
  obtain ⟨k7, f7⟩ := impl_GetTree_ev t (by omega)
  obtain ⟨k8, f8⟩ := spec_GetTree_ev t (by omega)
  have hg := getT_code t
  obtain ⟨k9, f9⟩ := impl_PutTree_ev (getT t).1 (getT_small t)
  obtain ⟨code, f10, hcode⟩ := treeCode_pos (getT t).2 hg.2.1 hg.2.2
  obtain ⟨a, b, r, ⟨k11, f11⟩, ha, hb, hr⟩ := drawPutCost_ok c hc
  obtain ⟨k12, f12⟩ := impl_PutCost_ev a b r (by omega) (by omega) (by omega)
  have hp := putC_size a b r
  obtain ⟨k13, f13⟩ := impl_GetCost_ev (putC a b r) (by omega)
  obtain ⟨k14, f14⟩ := spec_CostOk_ev a b r (by omega) (by omega) (by omega)
  obtain ⟨k15, f15⟩ := spec_SameCost_ev a b r a b r (by omega) (by omega) (by omega)
  obtain ⟨k16, f16⟩ := impl_SameCost_ev a b r a b r (by omega) (by omega) (by omega)
  obtain ⟨u, ⟨k17, f17⟩, hu⟩ := drawGetCost_ok c hc
  obtain ⟨k18, f18⟩ := impl_GetCost_ev u (by omega)
  obtain ⟨k19, f19⟩ := spec_GetCost_ev u (by omega)
  have hz := getC_small u
  obtain ⟨k20, f20⟩ := impl_PutCost_ev (getC u).1 (getC u).2.1 (getC u).2.2.1 (by omega) (by omega) (by omega)
  obtain ⟨K, hK⟩ : ∃ K, k1 ≤ K ∧ k2 ≤ K ∧ k3 ≤ K ∧ k4 ≤ K ∧ k5 ≤ K ∧ k6 ≤ K ∧ k7 ≤ K ∧ k8 ≤ K ∧ k9 ≤ K ∧ k11 ≤ K ∧ k12 ≤ K ∧ k13 ≤ K ∧ k14 ≤ K ∧ k15 ≤ K ∧ k16 ≤ K ∧ k17 ≤ K ∧ k18 ≤ K ∧ k19 ≤ K ∧ k20 ≤ K := ⟨k1 + k2 + k3 + k4 + k5 + k6 + k7 + k8 + k9 + k11 + k12 + k13 + k14 + k15 + k16 + k17 + k18 + k19 + k20, by omega⟩
  have g3 := f3 K (by omega)
  have g13 := f13 K (by omega)
  have g18 := f18 K (by omega)
  have g19 := f19 K (by omega)
  have g7 := f7 K (by omega)
  have g8 := f8 K (by omega)
  have g9 : impl_PutTree.f K (getT t).1 = some (putT (getT t).1) := f9 K (by omega)
  have g5 : spec_SameTree.f K l l = some (sameT l l) := f5 K (by omega)
  have g15 : spec_SameCost.f K a b r a b r = some (eqC a b r a b r) := f15 K (by omega)
  have g16 : impl_SameCost.f K a b r a b r = some (eqC a b r a b r) := f16 K (by omega)
  have g20 : impl_PutCost.f K (getC u).1 (getC u).2.1 (getC u).2.2.1 = some (putC (getC u).1 (getC u).2.1 (getC u).2.2.1) := f20 K (by omega)
  have htree : treeB (lab l) (dep l) l.length = true → getT (putT l) = (l, 0) := getT_put l
  have hnone : treeB (lab l) (dep l) l.length = false → putT l = ⟨#[]⟩ := fun h => by unfold putT; rw [if_neg (by rw [h]; decide)]
  have hback : (getT t).2 = 0 → putT (getT t).1 = t := fun h => putT_get t _ (by rw [← h])
  have hcb : (getC u).2.2.2 = true → putC (getC u).1 (getC u).2.1 (getC u).2.2.1 = u := fun h => putC_get u _ _ _ (by rw [← h])
  have hcf : costT a b r = false → putC a b r = ⟨#[]⟩ := fun h => by unfold putC; rw [if_neg (by rw [h]; decide)]
  have his : (getC (putC a b r)).2.2.2 = costT a b r := by
    cases h : costT a b r with
    | true => rw [getC_put a b r h]
    | false => rw [hcf h, getC_nil]
  rw [show getC (putC a b r) = ((getC (putC a b r)).1, (getC (putC a b r)).2.1, (getC (putC a b r)).2.2.1, costT a b r) by rw [← his]] at g13
  refine ⟨K, .mk l (getT (putT l)).1 (getT t).1 (getT t).1 (putT l) t code (getT (putT l)).2 (getT t).2 (treeB (lab l) (dep l) l.length) (costT a b r) (getC u).2.2.2 a b r (getC (putC a b r)).1 (getC (putC a b r)).2.1 (getC (putC a b r)).2.2.1 (getC u).1 (getC u).2.1 (getC u).2.2.1 (getC u).1 (getC u).2.1 (getC u).2.2.1 (putC a b r) u
    ⟨f1 K (by omega)⟩ ⟨f2 K (by omega)⟩ ⟨g3⟩ ⟨f4 K (by omega)⟩ (fun h => ?_) (fun h => ?_) ⟨f6 K (by omega)⟩ ⟨g7⟩ ⟨g8⟩ (fun h => ?_) hg.1 ⟨f10⟩ hcode ⟨f11 K (by omega)⟩ ⟨f12 K (by omega)⟩ ⟨g13⟩ ⟨f14 K (by omega)⟩ (fun h => ?_) ⟨f17 K (by omega)⟩ ⟨g18⟩ ⟨g19⟩ (fun h => ?_)⟩
  · rw [htree h]
    exact ⟨rfl, putT_pos l h, by rw [g5, sameT_refl]⟩
  · have e := hnone h
    rw [e]
    exact ⟨by decide, rfl⟩
  · rw [g9, hback h]
  · rw [getC_put a b r h]
    exact ⟨by rw [g15, eqC_refl], by rw [g16, eqC_refl]⟩
  · rw [g20, hcb h]

end Go.Proofs.Ytpkokfffjgdjoaa.PureFnBytes
namespace Go.Proofs.Ytpkokfffjgdjoaa.Pure
open Go.RowKit Go.Proofs.Ytpkokfffjgdjoaa.HFnBytes
theorem FnBytes : laws_FnBytes.Pure := Go.Proofs.Ytpkokfffjgdjoaa.PureFnBytes.law
end Go.Proofs.Ytpkokfffjgdjoaa.Pure
