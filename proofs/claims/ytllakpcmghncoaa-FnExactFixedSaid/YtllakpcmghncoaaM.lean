/- Plain facts about numbers, bytes and rounds, used by the proofs of the pure statements. No condition beyond what each lemma names. -/
import Derived.Test.YtllakpcmghncoaaWWords
import Derived.Test.YtllakpcmghncoaaWMore
import Derived.Laws.BitsLemmas
import Derived.Laws.Strings
import Derived.WideShapes
namespace Go.Proofs.Ytllakpcmghncoaa.M
open Go.RowKit Go.Proofs.YtllakpcmghncoaaW.PrintWords Go.Proofs.YtllakpcmghncoaaW.PrintMore

theorem w64 {n : Int} (h0 : -9223372036854775808 ≤ n) (h1 : n ≤ 9223372036854775807) : wrap64 n = n := by unfold wrap64; omega
theorem wraps_i64 (n : Int) (h₀ : 0 ≤ n) (h₁ : n < 2 ^ 63) : IntKind.i64.wrap n = n := by rw [IntKind.wrap_i64]; omega
theorem wf64 {n : Int} (h : (Lit.int .i64 n).wf = true) : -9223372036854775808 ≤ n ∧ n ≤ 9223372036854775807 := by
  simp [Lit.wf, IntKind.min, IntKind.max, IntKind.bits, IntKind.signed] at h
  omega

theorem evSome {α : Type} {r r' : α} (h : r = r') : Ev (fun _ => some r) r' := h ▸ Ev.now r
theorem evConst {α : Type} {g : Option α} {r : α} (h : g = some r) : Ev (fun _ => g) r := ⟨0, fun _ _ => h⟩
theorem Ev.congr' {α : Type} {g f : Nat → Option α} {r : α} (k : Ev f r) (h : ∀ k, g k = f k) : Ev g r := Ev.congr h k

theorem bt_u8 (s : ByteArray) (i : Int) : 0 ≤ bt s i ∧ bt s i ≤ 255 := bt_range s i
theorem bt_nat (s : ByteArray) (i : Nat) (h : i < s.size) : bt s (i : Int) = ((s[i]'h).toNat : Int) := by
  unfold bt
  simp [h]
theorem bt_list (s : ByteArray) (i : Nat) : bt s (i : Int) = ((s.data.toList.map fun b => (b.toNat : Int)).getD i 0) := by
  rw [← rd_bytesOf]; unfold rd bytesOf; simp

/-- The bytes of a text, as numbers. -/
theorem toList_data (s : ByteArray) : s.toList = s.data.toList := ByteArray.toList_eq s
theorem strOf_toList (xs : List Int) : (strOfNums xs).toList = xs.map fun n => UInt8.ofNat n.toNat := by rw [toList_data]; rfl
theorem strOf_ext {xs ys : List Int} (h : xs = ys) : strOfNums xs = strOfNums ys := by rw [h]
theorem ba_ext {a b : ByteArray} (h : a.toList = b.toList) : a = b := by
  rw [toList_data, toList_data] at h
  exact Go.WideShapes.bytes_inj h
theorem bytesOf_len (s : ByteArray) : (bytesOf s).length = s.size := bytesOf_length s
theorem bytesOf_range (s : ByteArray) : ∀ x ∈ bytesOf s, 0 ≤ x ∧ x ≤ 255 := by
  intro x hx
  unfold bytesOf at hx
  simp only [List.mem_map] at hx
  obtain ⟨b, _, rfl⟩ := hx
  have := b.toNat_lt
  omega
theorem bytesOf_strOf {xs : List Int} (h : ∀ x ∈ xs, 0 ≤ x ∧ x ≤ 255) : bytesOf (strOfNums xs) = xs := by
  unfold bytesOf strOfNums
  simp only [List.map_map]
  conv => rhs; rw [← List.map_id xs]
  apply List.map_congr_left
  intro x hx
  have := h x hx
  simp only [Function.comp, id]
  rw [UInt8.toNat_ofNat']
  omega
theorem strOf_bytesOf (s : ByteArray) : strOfNums (bytesOf s) = s := by
  apply ba_ext
  rw [strOf_toList, toList_data]
  unfold bytesOf
  rw [List.map_map]
  conv => rhs; rw [← List.map_id s.data.toList]
  apply List.map_congr_left
  intro x _
  simp

theorem and127_u8 {x : Int} (h₀ : 0 ≤ x) (h₁ : x < 256) : Go.bits .and .u8 x 127 = x % 128 := bits_mask .u8 8 (by decide) wraps_u8 7 (by decide) x h₀ h₁
theorem and127_i64 {x : Int} (h₀ : 0 ≤ x) (h₁ : x < 9223372036854775808) : Go.bits .and .i64 x 127 = x % 128 := bits_mask .i64 63 (by decide) wraps_i64 7 (by decide) x h₀ h₁
theorem or128_u8 {x : Int} (h₀ : 0 ≤ x) (h₁ : x < 128) : Go.bits .or .u8 x 128 = 128 + x := by
  obtain ⟨a, rfl⟩ := Int.eq_ofNat_of_zero_le h₀
  have h := (bits_nat .u8 8 (by decide) wraps_u8 a 128 (by omega) (by omega)).2
  have h2 : a ||| 128 = 128 + a := by
    rw [Nat.or_comm]
    exact (Nat.two_pow_add_eq_or_of_lt (i := 7) (b := a) (by omega) 1).symm
  rw [show ((128 : Int)) = ((128 : Nat) : Int) from rfl, h, h2]
  simp
/-- 'or' of what lies below a power of two and of a multiple of it. -/
theorem or_low {x y : Int} (i : Nat) (hx : 0 ≤ x) (hx1 : x < 2 ^ i) (hy : 0 ≤ y) (hy1 : y < 2 ^ 63) (hy2 : y % 2 ^ i = 0) (hi : i ≤ 63) : Go.bits .or .i64 x y = x + y := by
  obtain ⟨a, rfl⟩ := Int.eq_ofNat_of_zero_le hx
  obtain ⟨b, rfl⟩ := Int.eq_ofNat_of_zero_le hy
  have ha : a < 2 ^ i := by exact_mod_cast hx1
  have hb : b < 2 ^ 63 := by exact_mod_cast hy1
  have hd : b % 2 ^ i = 0 := by exact_mod_cast hy2
  have ha' : a < 2 ^ 63 := Nat.lt_of_lt_of_le ha (Nat.pow_le_pow_right (by decide) hi)
  rw [(bits_nat .i64 63 (by decide) wraps_i64 a b ha' hb).2]
  have hq : b = 2 ^ i * (b / 2 ^ i) := by
    have := Nat.div_add_mod b (2 ^ i)
    omega
  rw [Nat.or_comm]
  rw [hq, ← Nat.two_pow_add_eq_or_of_lt ha (b / 2 ^ i)]
  simp; omega
theorem or_high {x y : Int} (i : Nat) (hx : 0 ≤ x) (hx1 : x < 2 ^ 63) (hx2 : x % 2 ^ i = 0) (hy : 0 ≤ y) (hy1 : y < 2 ^ i) (hi : i ≤ 63) : Go.bits .or .i64 x y = x + y := by
  refine bits_join .i64 63 (by decide) wraps_i64 i x y hx hx2 hx1 hy hy1 ?_
  refine Int.lt_of_lt_of_le hy1 ?_
  exact_mod_cast Nat.pow_le_pow_right (show 0 < 2 by decide) hi

theorem drop_bytes (s : ByteArray) (i : Nat) (h : i < s.size) : (bytesOf s).drop i = bt s (i : Int) :: (bytesOf s).drop (i + 1) := by
  have hl : i < (bytesOf s).length := by rw [bytesOf_len]; exact h
  rw [List.drop_eq_getElem_cons hl]
  congr 1
  rw [← rd_bytesOf]
  unfold rd
  simp [List.getD_eq_getElem?_getD, List.getElem?_eq_getElem hl]
theorem drop_bytes_end (s : ByteArray) (i : Nat) (h : s.size ≤ i) : (bytesOf s).drop i = [] := by
  apply List.drop_of_length_le; rw [bytesOf_len]; exact h

/-- The hexadecimal digits. -/
def hexD (x : Int) : Int := bt (⟨#[48, 49, 50, 51, 52, 53, 54, 55, 56, 57, 97, 98, 99, 100, 101, 102]⟩ : ByteArray) x
def hexL : List Int → List Int
  | [] => []
  | b :: l => hexD (b / 16) :: hexD (b % 16) :: hexL l
def hexS (s : ByteArray) : ByteArray := strOfNums (hexL (bytesOf s))

theorem strOf_append (a b : List Int) : strOfNums (a ++ b) = strOfNums a ++ strOfNums b := by
  apply ba_ext
  rw [strOf_toList, toList_data, ByteArray.data_append, Array.toList_append, ← toList_data, ← toList_data, strOf_toList, strOf_toList, List.map_append]
theorem strOf_nil : strOfNums [] = (⟨#[]⟩ : ByteArray) := rfl

/-- A number as so many bytes, the most significant first. -/
def fixB : Nat → Nat → List Int
  | 0, _ => []
  | w + 1, n => fixB w (n / 256) ++ [(n : Int) % 256]
theorem fixB_len (w : Nat) : ∀ n, (fixB w n).length = w := by
  induction w with
  | zero => intro n; rfl
  | succ w ih => intro n; simp [fixB, ih]
theorem fixB_range (w : Nat) : ∀ n, ∀ x ∈ fixB w n, 0 ≤ x ∧ x ≤ 255 := by
  induction w with
  | zero => intro n x hx; simp [fixB] at hx
  | succ w ih =>
    intro n x hx
    simp only [fixB, List.mem_append, List.mem_singleton] at hx
    rcases hx with hx | rfl
    · exact ih _ x hx
    · omega
/-- What Fixed gives. -/
def fixedS (n w : Int) : ByteArray := if (1 ≤ w ∧ w ≤ 7) ∧ 0 ≤ n ∧ n.toNat / 256 ^ w.toNat = 0 then strOfNums (fixB w.toNat n.toNat) else ⟨#[]⟩

/-- The bytes of a number: seven bits a byte, the least first. -/
def varB (n : Nat) : List Int := if n < 128 then [(n : Int)] else (128 + (n : Int) % 128) :: varB (n / 128)
termination_by n
decreasing_by omega
theorem varB_lt {n : Nat} (h : n < 128) : varB n = [(n : Int)] := by rw [varB, if_pos h]
theorem varB_ge {n : Nat} (h : ¬ n < 128) : varB n = (128 + (n : Int) % 128) :: varB (n / 128) := by rw [varB, if_neg h]
theorem varB_pos (n : Nat) : 0 < (varB n).length := by
  by_cases h : n < 128
  · rw [varB_lt h]; simp
  · rw [varB_ge h]; simp
theorem varB_len (j : Nat) : ∀ n : Nat, n < 128 ^ (j + 1) → (varB n).length ≤ j + 1 := by
  induction j with
  | zero => intro n h; rw [varB_lt (by simpa using h)]; simp
  | succ j ih =>
    intro n h
    by_cases h1 : n < 128
    · rw [varB_lt h1]; simp
    · rw [varB_ge h1]
      have := ih (n / 128) (by rw [Nat.pow_succ] at h; omega)
      simp only [List.length_cons]; omega
theorem varB_range (n : Nat) : ∀ x ∈ varB n, 0 ≤ x ∧ x ≤ 255 := by
  induction n using Nat.strongRecOn with
  | _ n ih =>
    by_cases h : n < 128
    · rw [varB_lt h]; intro x hx; simp only [List.mem_singleton] at hx; omega
    · rw [varB_ge h]
      intro x hx
      simp only [List.mem_cons] at hx
      rcases hx with rfl | hx
      · omega
      · exact ih (n / 128) (by omega) x hx
/-- What Var gives. -/
def varS (n : Int) : ByteArray := if 0 ≤ n ∧ n ≤ 562949953421311 then strOfNums (varB n.toNat) else ⟨#[]⟩

end Go.Proofs.Ytllakpcmghncoaa.M
