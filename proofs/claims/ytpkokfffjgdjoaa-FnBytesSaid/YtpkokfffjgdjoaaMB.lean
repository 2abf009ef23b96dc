/- Plain facts about bytes and their codes, used by the proofs of the pure statements. No condition beyond what each lemma names. -/
import Derived.Test.YtpkokfffjgdjoaaM
import Derived.Test.YtpkokfffjgdjoaaWords
import Derived.Laws.BitsLemmas
import Derived.Laws.Strings
import Derived.WideShapes
namespace Go.Proofs.Ytpkokfffjgdjoaa.M
open Go.RowKit Go.Proofs.YtpkokfffjgdjoaaW.PrintWords Go.Proofs.YtpkokfffjgdjoaaW.PrintMore
set_option linter.unusedVariables false
set_option linter.unusedSimpArgs false

theorem bt_u8 (s : ByteArray) (i : Int) : 0 ≤ bt s i ∧ bt s i ≤ 255 := bt_range s i
theorem bt_nat (s : ByteArray) (i : Nat) (h : i < s.size) : bt s (i : Int) = ((s[i]'h).toNat : Int) := by
  unfold bt
  simp [h]
theorem bt_list (s : ByteArray) (i : Nat) : bt s (i : Int) = ((s.data.toList.map fun b => (b.toNat : Int)).getD i 0) := by
  rw [← rd_bytesOf]; unfold rd bytesOf; simp

/-- The bytes of a text, as numbers. -/
theorem toList_data (s : ByteArray) : s.toList = s.data.toList := ByteArray.toList_eq s
theorem strOf_toList (xs : List Int) : (strOfNums xs).toList = xs.map fun n => UInt8.ofNat n.toNat := by rw [toList_data]; rfl
theorem strOf_ext {xs ys : List Int} (h : xs = ys) : strOfNums xs = strOfNums ys := by rw [h]
theorem ba_ext {a b : ByteArray} (h : a.toList = b.toList) : a = b := by
  rw [toList_data, toList_data] at h
  exact Go.WideShapes.bytes_inj h
theorem bytesOf_len (s : ByteArray) : (bytesOf s).length = s.size := bytesOf_length s
theorem bytesOf_range (s : ByteArray) : ∀ x ∈ bytesOf s, 0 ≤ x ∧ x ≤ 255 := by
  intro x hx
  unfold bytesOf at hx
  simp only [List.mem_map] at hx
  obtain ⟨b, _, rfl⟩ := hx
  have := b.toNat_lt
  omega
theorem bytesOf_strOf {xs : List Int} (h : ∀ x ∈ xs, 0 ≤ x ∧ x ≤ 255) : bytesOf (strOfNums xs) = xs := by
  unfold bytesOf strOfNums
  simp only [List.map_map]
  conv => rhs; rw [← List.map_id xs]
  apply List.map_congr_left
  intro x hx
  have := h x hx
  simp only [Function.comp, id]
  rw [UInt8.toNat_ofNat']
  omega
theorem strOf_bytesOf (s : ByteArray) : strOfNums (bytesOf s) = s := by
  apply ba_ext
  rw [strOf_toList, toList_data]
  unfold bytesOf
  rw [List.map_map]
  conv => rhs; rw [← List.map_id s.data.toList]
  apply List.map_congr_left
  intro x _
  simp

theorem and127_u8 {x : Int} (h₀ : 0 ≤ x) (h₁ : x < 256) : Go.bits .and .u8 x 127 = x % 128 := bits_mask .u8 8 (by decide) wraps_u8 7 (by decide) x h₀ h₁
theorem and127_i64 {x : Int} (h₀ : 0 ≤ x) (h₁ : x < 9223372036854775808) : Go.bits .and .i64 x 127 = x % 128 := bits_mask .i64 63 (by decide) wraps_i64 7 (by decide) x h₀ h₁
theorem or128_u8 {x : Int} (h₀ : 0 ≤ x) (h₁ : x < 128) : Go.bits .or .u8 x 128 = 128 + x := by
  obtain ⟨a, rfl⟩ := Int.eq_ofNat_of_zero_le h₀
  have h := (bits_nat .u8 8 (by decide) wraps_u8 a 128 (by omega) (by omega)).2
  have h2 : a ||| 128 = 128 + a := by
    rw [Nat.or_comm]
    exact (Nat.two_pow_add_eq_or_of_lt (i := 7) (b := a) (by omega) 1).symm
  rw [show ((128 : Int)) = ((128 : Nat) : Int) from rfl, h, h2]
  simp
/-- 'or' of what lies below a power of two and of a multiple of it. -/
theorem or_low {x y : Int} (i : Nat) (hx : 0 ≤ x) (hx1 : x < 2 ^ i) (hy : 0 ≤ y) (hy1 : y < 2 ^ 63) (hy2 : y % 2 ^ i = 0) (hi : i ≤ 63) : Go.bits .or .i64 x y = x + y := by
  obtain ⟨a, rfl⟩ := Int.eq_ofNat_of_zero_le hx
  obtain ⟨b, rfl⟩ := Int.eq_ofNat_of_zero_le hy
  have ha : a < 2 ^ i := by exact_mod_cast hx1
  have hb : b < 2 ^ 63 := by exact_mod_cast hy1
  have hd : b % 2 ^ i = 0 := by exact_mod_cast hy2
  have ha' : a < 2 ^ 63 := Nat.lt_of_lt_of_le ha (Nat.pow_le_pow_right (by decide) hi)
  rw [(bits_nat .i64 63 (by decide) wraps_i64 a b ha' hb).2]
  have hq : b = 2 ^ i * (b / 2 ^ i) := by
    have := Nat.div_add_mod b (2 ^ i)
    omega
  rw [Nat.or_comm]
  rw [hq, ← Nat.two_pow_add_eq_or_of_lt ha (b / 2 ^ i)]
  simp; omega
theorem or_high {x y : Int} (i : Nat) (hx : 0 ≤ x) (hx1 : x < 2 ^ 63) (hx2 : x % 2 ^ i = 0) (hy : 0 ≤ y) (hy1 : y < 2 ^ i) (hi : i ≤ 63) : Go.bits .or .i64 x y = x + y := by
  refine bits_join .i64 63 (by decide) wraps_i64 i x y hx hx2 hx1 hy hy1 ?_
  refine Int.lt_of_lt_of_le hy1 ?_
  exact_mod_cast Nat.pow_le_pow_right (show 0 < 2 by decide) hi

theorem drop_bytes (s : ByteArray) (i : Nat) (h : i < s.size) : (bytesOf s).drop i = bt s (i : Int) :: (bytesOf s).drop (i + 1) := by
  have hl : i < (bytesOf s).length := by rw [bytesOf_len]; exact h
  rw [List.drop_eq_getElem_cons hl]
  congr 1
  rw [← rd_bytesOf]
  unfold rd
  simp [List.getD_eq_getElem?_getD, List.getElem?_eq_getElem hl]
theorem drop_bytes_end (s : ByteArray) (i : Nat) (h : s.size ≤ i) : (bytesOf s).drop i = [] := by
  apply List.drop_of_length_le; rw [bytesOf_len]; exact h

/-- The hexadecimal digits. -/
def hexD (x : Int) : Int := bt (⟨#[48, 49, 50, 51, 52, 53, 54, 55, 56, 57, 97, 98, 99, 100, 101, 102]⟩ : ByteArray) x
def hexL : List Int → List Int
  | [] => []
  | b :: l => hexD (b / 16) :: hexD (b % 16) :: hexL l
def hexS (s : ByteArray) : ByteArray := strOfNums (hexL (bytesOf s))

theorem strOf_append (a b : List Int) : strOfNums (a ++ b) = strOfNums a ++ strOfNums b := by
  apply ba_ext
  rw [strOf_toList, toList_data, ByteArray.data_append, Array.toList_append, ← toList_data, ← toList_data, strOf_toList, strOf_toList, List.map_append]
theorem strOf_nil : strOfNums [] = (⟨#[]⟩ : ByteArray) := rfl

/-- A number as so many bytes, the most significant first. -/
def fixB : Nat → Nat → List Int
  | 0, _ => []
  | w + 1, n => fixB w (n / 256) ++ [(n : Int) % 256]
theorem fixB_len (w : Nat) : ∀ n, (fixB w n).length = w := by
  induction w with
  | zero => intro n; rfl
  | succ w ih => intro n; simp [fixB, ih]
theorem fixB_range (w : Nat) : ∀ n, ∀ x ∈ fixB w n, 0 ≤ x ∧ x ≤ 255 := by
  induction w with
  | zero => intro n x hx; simp [fixB] at hx
  | succ w ih =>
    intro n x hx
    simp only [fixB, List.mem_append, List.mem_singleton] at hx
    rcases hx with hx | rfl
    · exact ih _ x hx
    · omega
/-- What Fixed gives. -/
def fixedS (n w : Int) : ByteArray := if (1 ≤ w ∧ w ≤ 7) ∧ 0 ≤ n ∧ n.toNat / 256 ^ w.toNat = 0 then strOfNums (fixB w.toNat n.toNat) else ⟨#[]⟩

/-- What so many bytes from place i on are worth, behind a number. -/
def valB (s : ByteArray) : Nat → Nat → Int → Int
  | 0, _, n => n
  | d + 1, i, n => valB s d (i + 1) (n * 256 + bt s (i : Int))
theorem p256 (i : Nat) (h : i ≤ 6) : (256 : Int) ^ i ≤ 281474976710656 := by
  have h1 : (256 : Nat) ^ i ≤ 256 ^ 6 := Nat.pow_le_pow_right (by decide) h
  have h2 : ((256 ^ i : Nat) : Int) ≤ ((256 ^ 6 : Nat) : Int) := by omega
  simpa using h2
theorem valB_nonneg (s : ByteArray) (d : Nat) : ∀ (i : Nat) (n : Int), 0 ≤ n → 0 ≤ valB s d i n := by
  induction d with
  | zero => intro i n h; exact h
  | succ d ih => intro i n h; have := bt_u8 s (i : Int); exact ih _ _ (by omega)
/-- What ReadFixed gives. -/
def readFixed (s : ByteArray) (w : Int) : Int × Bool := if (1 ≤ w ∧ w ≤ 7) ∧ w ≤ (s.size : Int) then (valB s w.toNat 0 0, true) else (0, false)

/-- The bytes of a number: seven bits a byte, the least first. -/
def varB (n : Nat) : List Int := if n < 128 then [(n : Int)] else (128 + (n : Int) % 128) :: varB (n / 128)
termination_by n
decreasing_by omega
theorem varB_lt {n : Nat} (h : n < 128) : varB n = [(n : Int)] := by rw [varB, if_pos h]
theorem varB_ge {n : Nat} (h : ¬ n < 128) : varB n = (128 + (n : Int) % 128) :: varB (n / 128) := by rw [varB, if_neg h]
theorem varB_pos (n : Nat) : 0 < (varB n).length := by
  by_cases h : n < 128
  · rw [varB_lt h]; simp
  · rw [varB_ge h]; simp
theorem varB_len (j : Nat) : ∀ n : Nat, n < 128 ^ (j + 1) → (varB n).length ≤ j + 1 := by
  induction j with
  | zero => intro n h; rw [varB_lt (by simpa using h)]; simp
  | succ j ih =>
    intro n h
    by_cases h1 : n < 128
    · rw [varB_lt h1]; simp
    · rw [varB_ge h1]
      have := ih (n / 128) (by rw [Nat.pow_succ] at h; omega)
      simp only [List.length_cons]; omega
theorem varB_range (n : Nat) : ∀ x ∈ varB n, 0 ≤ x ∧ x ≤ 255 := by
  induction n using Nat.strongRecOn with
  | _ n ih =>
    by_cases h : n < 128
    · rw [varB_lt h]; intro x hx; simp only [List.mem_singleton] at hx; omega
    · rw [varB_ge h]
      intro x hx
      simp only [List.mem_cons] at hx
      rcases hx with rfl | hx
      · omega
      · exact ih (n / 128) (by omega) x hx
/-- What Var gives. -/
def varS (n : Int) : ByteArray := if 0 ≤ n ∧ n ≤ 562949953421311 then strOfNums (varB n.toNat) else ⟨#[]⟩

theorem varS_size (n : Int) : (varS n).size ≤ 8 := by
  unfold varS
  by_cases h : 0 ≤ n ∧ n ≤ 562949953421311
  · rw [if_pos h, strOfNums_size]
    exact varB_len 7 n.toNat (by omega)
  · rw [if_neg h]; exact Nat.zero_le _
theorem bytesOf_inj {a b : ByteArray} (h : bytesOf a = bytesOf b) : a = b := by
  rw [← strOf_bytesOf a, ← strOf_bytesOf b, h]
theorem toList_eq_iff (a b : ByteArray) : a.toList = b.toList ↔ bytesOf a = bytesOf b :=
  ⟨fun h => by rw [ba_ext h], fun h => by rw [bytesOf_inj h]⟩
theorem bytesOf_extract (s : ByteArray) (i j : Nat) : bytesOf (s.extract i j) = ((bytesOf s).take j).drop i := by
  unfold bytesOf
  simp [ByteArray.data_extract, List.map_drop, List.map_take, List.extract_eq_take_drop, List.drop_take]
theorem bytesOf_append (a b : ByteArray) : bytesOf (a ++ b) = bytesOf a ++ bytesOf b := by
  unfold bytesOf
  simp [ByteArray.data_append]
theorem bytesOf_nil : bytesOf (⟨#[]⟩ : ByteArray) = [] := rfl

/-- What bytes of seven bits are worth, the least first. -/
def decV : List Int → Int
  | [] => 0
  | b :: l => b % 128 + 128 * decV l
theorem decV_nonneg : ∀ l, 0 ≤ decV l
  | [] => by simp [decV]
  | b :: l => by have := decV_nonneg l; simp only [decV]; omega
theorem decV_lt : ∀ l : List Int, decV l < 128 ^ l.length
  | [] => by simp [decV]
  | b :: l => by
    have h := decV_lt l
    simp only [decV, List.length_cons, Int.pow_succ]
    generalize (128 : Int) ^ l.length = P at *
    omega
theorem decV_max (l : List Int) (h : l.length ≤ 7) : decV l ≤ 562949953421311 := by
  have h0 := decV_lt l
  have h1 : (128 : Nat) ^ l.length ≤ 128 ^ 7 := Nat.pow_le_pow_right (by decide) h
  have h2 : ((128 ^ l.length : Nat) : Int) ≤ ((128 ^ 7 : Nat) : Int) := by omega
  have h3 : (128 : Int) ^ l.length ≤ 562949953421312 := by simpa using h2
  generalize (128 : Int) ^ l.length = P at *
  omega
theorem decV_snoc (l : List Int) (b : Int) : decV (l ++ [b]) = decV l + b % 128 * 128 ^ l.length := by
  induction l with
  | nil => simp [decV]
  | cons c l ih =>
    simp only [List.cons_append, decV, ih, List.length_cons, Int.pow_succ, Int.mul_add]
    rw [← Int.add_assoc, Int.mul_left_comm, Int.mul_comm 128 (128 ^ l.length)]
theorem decV_varB (n : Nat) : decV (varB n) = n := by
  induction n using Nat.strongRecOn with
  | _ n ih =>
    by_cases h : n < 128
    · rw [varB_lt h]; simp only [decV]; omega
    · rw [varB_ge h]
      simp only [decV, ih (n / 128) (by omega)]
      omega
/-- Bytes that are those of a number: all but the last are 128 at least, the last is less, and not 0 where it isn't the first. -/
def goodV : List Int → Prop
  | [] => False
  | [b] => 0 ≤ b ∧ b < 128
  | b :: c :: l => 128 ≤ b ∧ b ≤ 255 ∧ goodV (c :: l) ∧ 0 < decV (c :: l)
theorem goodV_varB (n : Nat) : goodV (varB n) := by
  induction n using Nat.strongRecOn with
  | _ n ih =>
    by_cases h : n < 128
    · rw [varB_lt h]; simp only [goodV]; omega
    · have hi := ih (n / 128) (by omega)
      have hd := decV_varB (n / 128)
      have hp := varB_pos (n / 128)
      rw [varB_ge h]
      cases hv : varB (n / 128) with
      | nil => rw [hv] at hp; simp at hp
      | cons c l =>
        rw [hv] at hi hd
        simp only [goodV]
        refine ⟨by omega, by omega, hi, ?_⟩
        rw [hd]; omega
theorem varB_decV : ∀ l : List Int, goodV l → varB (decV l).toNat = l
  | [], h => h.elim
  | [b], h => by
    simp only [goodV] at h
    have : (decV [b]).toNat < 128 := by simp only [decV]; omega
    rw [varB_lt this]; simp only [decV]; congr 1; omega
  | b :: c :: l, h => by
    simp only [goodV] at h
    obtain ⟨h1, h2, h3, h4⟩ := h
    have ih := varB_decV (c :: l) h3
    have e : decV (b :: c :: l) = b % 128 + 128 * decV (c :: l) := rfl
    generalize hq : decV (c :: l) = q at *
    rw [e]
    have h5 : ¬ (b % 128 + 128 * q).toNat < 128 := by omega
    rw [varB_ge h5, show (b % 128 + 128 * q).toNat / 128 = q.toNat by omega, ih]
    congr 1; omega
theorem goodV_tail {b c : Int} {l : List Int} (h : goodV (b :: c :: l)) : goodV (c :: l) := h.2.2.1
theorem goodV_snoc (l : List Int) (h : ∀ x ∈ l, 128 ≤ x ∧ x ≤ 255) (b : Int) (h0 : 0 ≤ b) (h1 : b < 128) (h2 : l = [] ∨ 0 < b) : goodV (l ++ [b]) := by
  induction l with
  | nil => exact ⟨h0, h1⟩
  | cons c l ih =>
    have hc := h c (by simp)
    have hb : 0 < b := by rcases h2 with h2 | h2; · cases h2
                          · exact h2
    have hi := ih (fun x hx => h x (by simp [hx])) (.inr hb)
    have hd : 0 < decV (l ++ [b]) := by
      rw [decV_snoc]
      have := decV_nonneg l
      have hp : (0 : Int) < 128 ^ l.length := Int.pow_pos (by decide)
      have : 0 < b % 128 * 128 ^ l.length := Int.mul_pos (by omega) hp
      omega
    cases l with
    | nil => exact ⟨hc.1, hc.2, hi, hd⟩
    | cons e l => exact ⟨hc.1, hc.2, hi, hd⟩
theorem not_goodV_low (l m : List Int) (b : Int) (hm : m ≠ []) (hb : b < 128) : ¬ goodV (l ++ b :: m) := by
  induction l with
  | nil =>
    intro h
    cases m with
    | nil => exact hm rfl
    | cons c m => have := h.1; omega
  | cons e l ih =>
    intro h
    cases l with
    | nil => exact ih h.2.2.1
    | cons f l => exact ih h.2.2.1
theorem goodV_last (l : List Int) (b : Int) (h : goodV (l ++ [b])) : b < 128 ∧ (l = [] ∨ b ≠ 0) := by
  induction l with
  | nil => exact ⟨h.2, .inl rfl⟩
  | cons c l ih =>
    have h3 : goodV (l ++ [b]) ∧ 0 < decV (l ++ [b]) := by
      cases l with
      | nil => exact ⟨h.2.2.1, h.2.2.2⟩
      | cons e l => exact ⟨h.2.2.1, h.2.2.2⟩
    have h4 := ih h3.1
    refine ⟨h4.1, .inr ?_⟩
    rcases h4.2 with rfl | h5
    · have := h3.2; simp only [List.nil_append, decV] at this; omega
    · exact h5
theorem take_bytes_succ (s : ByteArray) (i : Nat) (h : i < s.size) : (bytesOf s).take (i + 1) = (bytesOf s).take i ++ [bt s (i : Int)] := by
  have hl : i < (bytesOf s).length := by rw [bytesOf_len]; exact h
  rw [List.take_succ_eq_append_getElem hl]
  congr 2
  rw [← rd_bytesOf]
  unfold rd
  simp [List.getD_eq_getElem?_getD, List.getElem?_eq_getElem hl]
/-- What ReadVar gives from place i on, n being what the bytes ahead of it are worth. -/
def rvGo (s : ByteArray) : Nat → Nat → Int → Int × Int
  | 0, _, _ => (0, 0)
  | d + 1, i, n =>
    if bt s (i : Int) < 128 then
      (if 0 < i ∧ bt s (i : Int) = 0 then (0, 0) else (n + bt s (i : Int) % 128 * 128 ^ i, (i : Int) + 1))
    else rvGo s d (i + 1) (n + bt s (i : Int) % 128 * 128 ^ i)
def readVar (s : ByteArray) : Int × Int := rvGo s (min s.size 7) 0 0

theorem rvGo_range (s : ByteArray) (d : Nat) : ∀ (i : Nat) (n : Int), i + d ≤ s.size → 0 ≤ n → 0 ≤ (rvGo s d i n).1 ∧ 0 ≤ (rvGo s d i n).2 ∧ (rvGo s d i n).2 ≤ s.size := by
  induction d with
  | zero => intro i n _ _; simp [rvGo]
  | succ d ih =>
    intro i n hi hn
    have hb := bt_u8 s (i : Int)
    have hp : (0 : Int) < 128 ^ i := Int.pow_pos (by decide)
    have hm : 0 ≤ bt s (i : Int) % 128 * 128 ^ i := Int.mul_nonneg (by omega) (by omega)
    simp only [rvGo]
    generalize bt s (i : Int) % 128 * 128 ^ i = y at *
    clear hp
    by_cases h1 : bt s (i : Int) < 128
    · rw [if_pos h1]
      by_cases h2 : 0 < i ∧ bt s (i : Int) = 0
      · rw [if_pos h2]; simp
      · rw [if_neg h2]; exact ⟨by show 0 ≤ n + y; omega, by show 0 ≤ (i : Int) + 1; omega, by show (i : Int) + 1 ≤ s.size; omega⟩
    · rw [if_neg h1]; exact ih (i + 1) _ (by omega) (by omega)
theorem readVar_range (s : ByteArray) : 0 ≤ (readVar s).1 ∧ 0 ≤ (readVar s).2 ∧ (readVar s).2 ≤ s.size := rvGo_range s _ 0 0 (by omega) (by omega)
theorem tail_tail (s : ByteArray) (a k : Nat) (ha : a ≤ s.size) : (s.extract a s.size).extract k (s.extract a s.size).size = s.extract (a + k) s.size := by
  apply bytesOf_inj
  rw [bytesOf_extract, bytesOf_extract, bytesOf_extract, ByteArray.size_extract, Nat.min_self, ← bytesOf_len, List.take_length, ← List.length_drop, List.take_length, List.drop_drop]
theorem tail_size (s : ByteArray) (a : Nat) : (s.extract a s.size).size = s.size - a := by simp [ByteArray.size_extract]
theorem tail_nil (s : ByteArray) (a : Nat) (ha : a ≤ s.size) : (s.extract a s.size).toList = [] ↔ a = s.size := by
  constructor
  · intro h
    have h1 : bytesOf (s.extract a s.size) = [] := by
      unfold bytesOf; rw [← toList_data, h]; rfl
    have h2 := congrArg List.length h1
    rw [bytesOf_len, tail_size] at h2
    simp at h2; omega
  · rintro rfl
    rw [toList_data]
    have : bytesOf (s.extract s.size s.size) = [] := by rw [bytesOf_extract]; simp [bytesOf_len]
    unfold bytesOf at this
    exact List.map_eq_nil_iff.1 this
theorem tail_all (s : ByteArray) : s.extract 0 s.size = s := by
  apply bytesOf_inj
  rw [bytesOf_extract, ← bytesOf_len, List.take_length, List.drop_zero]

/-- Are two lists the same, element by element? -/
def eqGo (a b : List Int) : Nat → Nat → Bool
  | 0, _ => true
  | d + 1, j => if rd a (j : Int) = rd b (j : Int) then eqGo a b d (j + 1) else false
def eqT (a b : List Int) : Bool := if a.length = b.length then eqGo a b a.length 0 else false
def eqC (a b c x y z : List Int) : Bool := if eqT a x = true then if eqT b y = true then eqT c z else false else false

end Go.Proofs.Ytpkokfffjgdjoaa.M
