/- For every string, the program's ReadDec and the reference's ReadDec answer the same. Condition: none but the model's own bound on a string's size. -/
import Derived.Test.YtbdjconojnjgdaaDoorHFnExactReadDecx2
import Derived.Test.YtbdjconojnjgdaaDoorM
import Derived.Test.YtbdjconojnjgdaaDoorDN
import Derived.Test.YtbdjconojnjgdaaDoorMB
import Derived.Test.YtbdjconojnjgdaaDoorTB
namespace Go.Proofs.YtbdjconojnjgdaaDoor.PureFnExactReadDec
open Go.RowKit Go.Proofs.YtbdjconojnjgdaaDoor.HFnExactReadDec Go.Proofs.YtbdjconojnjgdaaDoorW.PrintWords Go.Proofs.YtbdjconojnjgdaaDoorW.PrintLast Go.Proofs.YtbdjconojnjgdaaDoorW.PrintMore Go.Proofs.YtbdjconojnjgdaaDoor.M
set_option linter.unusedVariables false
set_option linter.unusedSimpArgs false

/-! spec_Dec -/
def digZ (u : Nat) : List Int := if u = 0 then [] else digL u
theorem digZ_step (u : Nat) (h : 0 < u) : digZ u = digZ (u / 10) ++ [48 + (u : Int) % 10] := by
  unfold digZ
  rw [if_neg (by omega)]
  by_cases c : u < 10
  · rw [if_pos (by omega), digL_lt c]
    simp only [List.nil_append]
    congr 1; omega
  · rw [if_neg (by omega), digL_ge c]
def sgnL (b : Bool) : List Int := if b = true then [45] else []
def sgnI (b : Bool) (u : Nat) : Int := if b = true then -(u : Int) else (u : Int)
theorem sgn_zero (b : Bool) : sgnI b 0 = 0 := by unfold sgnI; split <;> rfl
theorem sgn_tmod (b : Bool) (u : Nat) : Int.tmod (sgnI b u) 10 = sgnI b (u % 10) := by
  unfold sgnI
  split
  · rw [Int.neg_tmod]; rfl
  · rfl
theorem sgn_tdiv (b : Bool) (u : Nat) : Int.tdiv (sgnI b u) 10 = sgnI b (u / 10) := by
  unfold sgnI
  split
  · rw [Int.neg_tdiv]; rfl
  · rfl
theorem sgn_range (b : Bool) (u : Nat) (h : u ≤ 9223372036854775807) : -9223372036854775807 ≤ sgnI b u ∧ sgnI b u ≤ 9223372036854775807 := by
  unfold sgnI; split <;> omega
theorem byteA (c : Int) (h0 : 0 ≤ c) (h1 : c ≤ 57) : (wrap64 c) % 256 = c := by rw [w64 (by omega) (by omega)]; omega
theorem spec_Dec_l0 (b : Bool) (d : Nat) : ∀ (u : Nat) (s : ByteArray), u < 10 ^ d → s.size + d ≤ 100 → (-9223372036854775808 ≤ sgnI b u ∧ sgnI b u ≤ 9223372036854775807) → Ev (fun k => spec_Dec.l0 k (sgnI b u) s b) (strOfNums (sgnL b ++ digZ u) ++ s) := by
  have stop : ∀ s : ByteArray, s.size ≤ 100 → Ev (fun k => spec_Dec.l0 k (sgnI b 0) s b) (strOfNums (sgnL b ++ digZ 0) ++ s) := by
    intro s hs
    rw [sgn_zero]
    cases b with
    | true =>
      have c1 : 1 + s.size ≤ 9223372036854775807 := by omega
      exact Ev.step (f := fun _ => some ((⟨#[45]⟩ : ByteArray) ++ s)) (fun k => by rw [spec_Dec.l0, if_pos rfl, if_pos rfl, if_pos c1]) (Ev.now _)
    | false =>
      refine Ev.step (f := fun _ => some s) (fun k => by rw [spec_Dec.l0, if_pos rfl, if_neg (by decide)]) ?_
      refine evSome ?_
      show s = (⟨#[]⟩ : ByteArray) ++ s
      apply ba_ext; rw [toList_data, toList_data, ByteArray.data_append]; simp
  induction d with
  | zero => intro u s hu hs _; have : u = 0 := by simpa using hu
            subst this; exact stop s (by omega)
  | succ d ih =>
    intro u s hu hs hr
    by_cases h0 : u = 0
    · subst h0; exact stop s (by omega)
    · have c0 : ¬ sgnI b u = 0 := by unfold sgnI; split <;> omega
      have hdiv : -9223372036854775808 ≤ sgnI b (u / 10) ∧ sgnI b (u / 10) ≤ 9223372036854775807 := by unfold sgnI at hr ⊢; split at hr <;> split <;> omega
      have e1 : wrap64 (Int.tdiv (sgnI b u) 10) = sgnI b (u / 10) := by rw [sgn_tdiv]; exact w64 hdiv.1 hdiv.2
      have hu10 : u / 10 < 10 ^ d := by rw [Nat.pow_succ] at hu; omega
      have key : ∀ c : Int, c = 48 + (u : Int) % 10 → (strOfNums [c]).size + s.size ≤ 9223372036854775807 ∧ Ev (fun k => spec_Dec.l0 k (sgnI b (u / 10)) (strOfNums [c] ++ s) b) (strOfNums (sgnL b ++ digZ u) ++ s) := by
        intro c hc
        have hsz : (strOfNums [c]).size = 1 := by rw [strOfNums_size]; rfl
        refine ⟨by omega, ?_⟩
        have := ih (u / 10) (strOfNums [c] ++ s) hu10 (by rw [ByteArray.size_append, hsz]; omega) hdiv
        rw [digZ_step u (by omega), ← List.append_assoc, strOf_append, ← hc, ByteArray.append_assoc]
        exact this
      by_cases c1 : Int.tmod (sgnI b u) 10 < 0
      · have ec : (wrap64 (48 + (wrap64 (-(Int.tmod (sgnI b u) 10))))) % 256 = 48 + (u : Int) % 10 := by
          rw [sgn_tmod] at c1 ⊢
          have hx : -(sgnI b (u % 10)) = (u : Int) % 10 := by
            cases b with
            | true => show -(-((u % 10 : Nat) : Int)) = _; omega
            | false => exfalso; have h_ : ((u % 10 : Nat) : Int) < 0 := c1; omega
          rw [hx, w64 (n := (u : Int) % 10) (by omega) (by omega), byteA _ (by omega) (by omega)]
        obtain ⟨k1, k2⟩ := key _ ec
        refine Ev.step (fun k => by rw [spec_Dec.l0, if_neg c0, if_pos c1, Option.bind_some, if_pos k1, e1]) ?_
        rw [ec] at k2 ⊢
        exact k2
      · have ec : (wrap64 (48 + (Int.tmod (sgnI b u) 10))) % 256 = 48 + (u : Int) % 10 := by
          rw [sgn_tmod] at c1 ⊢
          have hx : sgnI b (u % 10) = (u : Int) % 10 := by
            cases b with
            | true => show -((u % 10 : Nat) : Int) = _; have h_ : ¬ -((u % 10 : Nat) : Int) < 0 := c1; omega
            | false => show ((u % 10 : Nat) : Int) = _; omega
          rw [hx, byteA _ (by omega) (by omega)]
        obtain ⟨k1, k2⟩ := key _ ec
        refine Ev.step (fun k => by rw [spec_Dec.l0, if_neg c0, if_neg c1, Option.bind_some, if_pos k1, e1]) ?_
        rw [ec] at k2 ⊢
        exact k2
theorem spec_Dec_ev (n : Int) (h0 : -9223372036854775808 ≤ n) (h1 : n ≤ 9223372036854775807) : Ev (fun k => spec_Dec.f k n) (decS n) := by
  unfold spec_Dec.f
  by_cases c : n = 0
  · subst c
    simp only [if_true]
    refine evSome ?_
    unfold decS decL
    rw [if_neg (by decide), digL_lt (by decide)]; rfl
  · simp only [if_neg c]
    have hs : sgnI (decide (n < 0)) n.natAbs = n := by
      unfold sgnI
      by_cases c2 : n < 0
      · rw [decide_eq_true c2, if_pos rfl]; omega
      · rw [decide_eq_false c2, if_neg (by decide)]; omega
    have := spec_Dec_l0 (decide (n < 0)) 20 n.natAbs ⟨#[]⟩ (by omega) (by decide) (by rw [hs]; exact ⟨h0, h1⟩)
    rw [hs] at this
    have e : strOfNums (sgnL (decide (n < 0)) ++ digZ n.natAbs) ++ (⟨#[]⟩ : ByteArray) = decS n := by
      have hz : digZ n.natAbs = digL n.natAbs := by unfold digZ; rw [if_neg (by omega)]
      have hl : sgnL (decide (n < 0)) ++ digZ n.natAbs = decL n := by
        unfold sgnL decL
        by_cases c2 : n < 0
        · rw [decide_eq_true c2, if_pos rfl, if_pos c2, hz]; rfl
        · rw [decide_eq_false c2, if_neg (by decide), if_neg c2, hz, List.nil_append, show n.natAbs = n.toNat by omega]
      rw [hl]
      apply ba_ext; rw [toList_data, toList_data, ByteArray.data_append]; simp [decS]
    rw [e] at this
    exact this

/-! spec_ReadDec -/
def isD (c : Int) : Bool := decide (48 ≤ c ∧ c ≤ 57)
theorem decS_iff' (m : Int) (s : ByteArray) : (decS m).toList = s.toList ↔ decS m = s := ⟨fun h => ba_ext h, fun h => by rw [h]⟩
def numD (s : ByteArray) : Int := if (bytesOf s).head? = some 45 then -(valL (((bytesOf s).take 11).filter isD) 0) else valL (((bytesOf s).take 11).filter isD) 0
/-- What the reference's ReadDec gives. -/
def specDec (s : ByteArray) : Int × Bool := if ((((bytesOf s).take 11).filter isD).length ≤ 9 ∧ s.size ≤ 10) ∧ decS (numD s) = s then (numD s, true) else (0, false)
theorem filt_range (l : List Int) : ∀ x ∈ l.filter isD, 48 ≤ x ∧ x ≤ 57 := fun x hx => by
  have := (List.mem_filter.1 hx).2
  unfold isD at this; exact of_decide_eq_true this
theorem valL_11 (l : List Int) (h : ∀ x ∈ l, 48 ≤ x ∧ x ≤ 57) (hl : l.length ≤ 11) : 0 ≤ valL l 0 ∧ valL l 0 < 100000000000 := by
  have h0 := valL_bound l 0 h (by omega)
  have h1 : (10 : Nat) ^ l.length ≤ 10 ^ 11 := Nat.pow_le_pow_right (by decide) hl
  have h2 : ((10 ^ l.length : Nat) : Int) ≤ ((10 ^ 11 : Nat) : Int) := by omega
  have h3 : (10 : Int) ^ l.length ≤ 100000000000 := by simpa using h2
  rw [Int.zero_add, Int.one_mul] at h0
  omega
theorem numD_small (s : ByteArray) (h : (((bytesOf s).take 11).filter isD).length ≤ 9) : -1000000000 < numD s ∧ numD s < 1000000000 := by
  have := valL_small _ (filt_range ((bytesOf s).take 11)) h
  unfold numD; split <;> omega
theorem specDec_of (m : Int) (h0 : -1000000000 < m) (h1 : m < 1000000000) : specDec (decS m) = (m, true) := by
  have hl := digL_len 8 m.natAbs (by omega)
  have hf : (digL m.natAbs).filter isD = digL m.natAbs := List.filter_eq_self.2 (fun x hx => by unfold isD; exact decide_eq_true (digL_range _ x hx))
  have hlen : (decL m).length ≤ 10 := by
    unfold decL
    by_cases c : m < 0
    · rw [if_pos c, List.length_cons]; omega
    · rw [if_neg c, show m.toNat = m.natAbs by omega]; omega
  have hfil : ((bytesOf (decS m)).take 11).filter isD = digL m.natAbs := by
    rw [bytes_decS, List.take_of_length_le (by omega)]
    unfold decL
    by_cases c : m < 0
    · rw [if_pos c, List.filter_cons_of_neg (by decide), hf]
    · rw [if_neg c, show m.toNat = m.natAbs by omega, hf]
  have hn : numD (decS m) = m := by
    unfold numD
    rw [hfil, valL_digL, bytes_decS]
    unfold decL
    by_cases c : m < 0
    · rw [if_pos c, if_pos (show (45 :: digL m.natAbs).head? = some 45 from rfl)]; omega
    · rw [if_neg c, if_neg (digL_head _)]; omega
  have hsz : (decS m).size ≤ 10 := by rw [← bytesOf_len, bytes_decS]; exact hlen
  unfold specDec
  rw [hn, hfil, if_pos ⟨⟨by omega, hsz⟩, rfl⟩]
theorem specDec_eq (s : ByteArray) : specDec s = readDec s := by
  rcases readDec_cases s with ⟨m, h⟩ | h
  · have := readDec_yes h
    rw [h, this.1]
    exact specDec_of m this.2.1 this.2.2
  · rw [h]
    unfold specDec
    by_cases c : ((((bytesOf s).take 11).filter isD).length ≤ 9 ∧ s.size ≤ 10) ∧ decS (numD s) = s
    · exfalso
      have hb := numD_small s c.1.1
      have := readDec_of (numD s) hb.1 hb.2
      rw [c.2, h] at this
      have h_ : false = true := congrArg Prod.snd this
      cases h_
    · rw [if_neg c]
theorem spec_ReadDec_j2 (s : ByteArray) (n k0 : Int) (b : Bool) (hn : 0 ≤ n ∧ n < 100000000000) (hb : b = true ↔ (bytesOf s).head? = some 45) (hv : n = valL (((bytesOf s).take 11).filter isD) 0) (hk : k0 = ((((bytesOf s).take 11).filter isD).length : Int)) : Ev (fun k => spec_ReadDec.j2 k s n k0 b) (specDec s) := by
  have e1 : wrap64 (-n) = -n := w64 (by omega) (by omega)
  unfold specDec
  subst hk
  refine Ev.step (fun k => by rw [spec_ReadDec.j2]) ?_
  have fin : ∀ m : Int, numD s = m → (-9223372036854775808 ≤ m ∧ m ≤ 9223372036854775807) → Ev (fun k => if ((((bytesOf s).take 11).filter isD).length : Int) > 9 then some ((0 : Int), false) else if (s.size : Int) > 10 then some (0, false) else (spec_Dec.f k m).bind fun t => if t.toList = s.toList then some (m, true) else some (0, false)) (if ((((bytesOf s).take 11).filter isD).length ≤ 9 ∧ s.size ≤ 10) ∧ decS (numD s) = s then (numD s, true) else (0, false)) := by
    intro m hm hr
    rw [hm]
    by_cases c1 : ((((bytesOf s).take 11).filter isD).length : Int) > 9
    · simp only [if_pos c1]
      rw [if_neg (fun h => by have := h.1.1; omega)]
      exact Ev.now _
    · simp only [if_neg c1]
      by_cases c2 : (s.size : Int) > 10
      · simp only [if_pos c2]
        rw [if_neg (fun h => by have := h.1.2; omega)]
        exact Ev.now _
      · simp only [if_neg c2]
        refine Ev.bind (spec_Dec_ev m hr.1 hr.2) ?_
        simp only [decS_iff']
        by_cases c3 : decS m = s
        · rw [if_pos c3, if_pos ⟨⟨by omega, by omega⟩, c3⟩]; exact Ev.now _
        · rw [if_neg c3, if_neg (fun h => c3 h.2)]; exact Ev.now _
  cases b with
  | true =>
    simp only [if_true, e1]
    exact fin (-n) (by unfold numD; rw [if_pos (hb.1 rfl), hv]) (by omega)
  | false =>
    simp only [Bool.false_eq_true, if_false]
    exact fin n (by unfold numD; rw [if_neg (fun h => by have := hb.2 h; cases this), hv]) (by omega)
theorem spec_ReadDec_end (s : ByteArray) (n k0 i : Int) (hn : 0 ≤ n ∧ n < 100000000000) (hv : n = valL (((bytesOf s).take 11).filter isD) 0) (hk : k0 = ((((bytesOf s).take 11).filter isD).length : Int)) : Ev (fun k => spec_ReadDec.j1 k s n k0 i false) (specDec s) := by
  refine Ev.step (fun k => by rw [spec_ReadDec.j1]) ?_
  simp only [Bool.false_eq_true, if_false]
  by_cases c : (s.size : Int) > 0
  · simp only [if_pos c]
    have hh : (bytesOf s).head? = some (bt s 0) := by
      have := drop_bytes s 0 (by omega)
      rw [List.drop_zero] at this
      rw [this]; rfl
    refine spec_ReadDec_j2 s n k0 (bt s 0 == 45) hn ?_ hv hk
    rw [hh]
    constructor
    · intro h; rw [beq_iff_eq.1 h]
    · intro h; exact beq_iff_eq.2 (Option.some.inj h)
  · simp only [if_neg c]
    have h0 : bytesOf s = [] := List.length_eq_zero_iff.1 (by rw [bytesOf_len]; omega)
    exact spec_ReadDec_j2 s n k0 false hn (by rw [h0]; simp) hv hk
theorem spec_ReadDec_l0 (s : ByteArray) (d : Nat) : ∀ (i : Nat) (n k0 : Int), i + d = min s.size 11 → n = valL (((bytesOf s).take i).filter isD) 0 → k0 = ((((bytesOf s).take i).filter isD).length : Int) → Ev (fun k => spec_ReadDec.l0 k s n k0 i) (specDec s) := by
  induction d with
  | zero =>
    intro i n k0 hi hn hk
    have ht : (bytesOf s).take i = (bytesOf s).take 11 := by
      by_cases c : s.size ≤ 11
      · rw [List.take_of_length_le (by rw [bytesOf_len]; omega), List.take_of_length_le (by rw [bytesOf_len]; omega)]
      · rw [show i = 11 by omega]
    rw [ht] at hn hk
    have hb := valL_11 _ (filt_range ((bytesOf s).take 11)) (Nat.le_trans (List.length_filter_le _ _) (by rw [List.length_take]; omega))
    rw [← hn] at hb
    by_cases c : (i : Int) < (s.size : Int)
    · refine Ev.step (fun k => by rw [spec_ReadDec.l0, if_pos c, decide_eq_false (show ¬ ((i : Int) < 11) by omega)]) ?_
      exact spec_ReadDec_end s n k0 i hb hn hk
    · refine Ev.step (fun k => by rw [spec_ReadDec.l0, if_neg c]) ?_
      exact spec_ReadDec_end s n k0 i hb hn hk
  | succ d ih =>
    intro i n k0 hi hn hk
    have hil : i < s.size := by omega
    have c : (i : Int) < (s.size : Int) := by omega
    have c1 : (0 : Int) ≤ (i : Int) := Int.natCast_nonneg _
    have hb := bt_u8 s (i : Int)
    have htk := take_bytes_succ s i hil
    have hlen : (((bytesOf s).take i).filter isD).length ≤ 11 := Nat.le_trans (List.length_filter_le _ _) (by rw [List.length_take]; omega)
    have hbn := valL_11 _ (filt_range ((bytesOf s).take i)) hlen
    rw [← hn] at hbn
    have e4 : wrap64 ((i : Int) + 1) = ((i + 1 : Nat) : Int) := by rw [w64 (by omega) (by omega)]; rfl
    refine Ev.step (fun k => by rw [spec_ReadDec.l0, if_pos c, decide_eq_true (show (i : Int) < 11 by omega)]) ?_
    by_cases c2 : bt s (i : Int) ≥ 48
    · by_cases c3 : bt s (i : Int) ≤ 57
      · have e1 : (bt s (i : Int) - 48) % 256 = bt s (i : Int) - 48 := by omega
        have e2 : wrap64 (wrap64 (n * 10) + (bt s (i : Int) - 48)) = n * 10 + (bt s (i : Int) - 48) := by rw [w64 (n := n * 10) (by omega) (by omega), w64 (by omega) (by omega)]
        have e3 : wrap64 (k0 + 1) = k0 + 1 := w64 (by omega) (by omega)
        have hd : isD (bt s (i : Int)) = true := by unfold isD; exact decide_eq_true ⟨c2, c3⟩
        have hf : ((bytesOf s).take (i + 1)).filter isD = ((bytesOf s).take i).filter isD ++ [bt s (i : Int)] := by rw [htk, List.filter_append, List.filter_cons_of_pos hd]; rfl
        refine Ev.step (fun k => by rw [spec_ReadDec.j1, if_pos rfl, if_pos c1, if_pos c, if_pos c2, if_pos c3, e1, e2, e3, e4]) ?_
        exact ih (i + 1) _ _ (by omega) (by rw [hf, valL_app, ← hn]; rfl) (by rw [hf, List.length_append, List.length_singleton, hk]; rfl)
      · have hd : ¬ isD (bt s (i : Int)) = true := by unfold isD; intro h; have := of_decide_eq_true h; omega
        have hf : ((bytesOf s).take (i + 1)).filter isD = ((bytesOf s).take i).filter isD := by rw [htk, List.filter_append, List.filter_cons_of_neg hd]; simp
        refine Ev.step (fun k => by rw [spec_ReadDec.j1, if_pos rfl, if_pos c1, if_pos c, if_pos c2, if_neg c3, e4]) ?_
        exact ih (i + 1) _ _ (by omega) (by rw [hf]; exact hn) (by rw [hf]; exact hk)
    · have hd : ¬ isD (bt s (i : Int)) = true := by unfold isD; intro h; have := of_decide_eq_true h; omega
      have hf : ((bytesOf s).take (i + 1)).filter isD = ((bytesOf s).take i).filter isD := by rw [htk, List.filter_append, List.filter_cons_of_neg hd]; simp
      refine Ev.step (fun k => by rw [spec_ReadDec.j1, if_pos rfl, if_pos c1, if_pos c, if_neg c2, e4]) ?_
      exact ih (i + 1) _ _ (by omega) (by rw [hf]; exact hn) (by rw [hf]; exact hk)
theorem spec_ReadDec_ev (s : ByteArray) : Ev (fun k => spec_ReadDec.f k s) (readDec s) := by
  rw [← specDec_eq]
  exact spec_ReadDec_l0 s (min s.size 11) 0 0 0 (by omega) (by simp [valL]) (by simp)

/-! impl_Dec -/
theorem impl_Dec_eq (n : Int) (h0 : -9223372036854775808 ≤ n) (h1 : n ≤ 9223372036854775807) : impl_Dec.f n = some (decS n) := by
  unfold impl_Dec.f strconv_Itoa.f
  rw [if_pos ⟨h0, h1⟩, Option.bind_some, itoa_decS]

/-! impl_within -/
theorem impl_within_eq (a b c : Int) : impl_within.f a b c = some (decide (b ≤ a ∧ a ≤ c)) := by
  unfold impl_within.f
  by_cases h : b ≤ a
  · rw [if_pos h]; simp [h]
  · rw [if_neg h]; simp [h]

/-! impl_ReadDec -/
theorem decS_iff (m : Int) (s : ByteArray) : (decS m).toList = s.toList ↔ decS m = s := ⟨fun h => ba_ext h, fun h => by rw [h]⟩
theorem impl_ReadDec_l0 (s t : ByteArray) (sg : Int) (hsg : sg = 1 ∨ sg = -1) (ht : t.size ≤ 9) (d : Nat) : ∀ (j : Nat) (a : Int), j + d = t.size → (∀ x ∈ (bytesOf t).take j, 48 ≤ x ∧ x ≤ 57) → a = valL ((bytesOf t).take j) 0 →
    Ev (fun k => impl_ReadDec.l0 k s t sg a (t.size : Int) j) (if allDig (bytesOf t) = true ∧ decS (sg * valL (bytesOf t) 0) = s then (sg * valL (bytesOf t) 0, true) else (0, false)) := by
  induction d with
  | zero =>
    intro j a hj hd ha
    have hall : (bytesOf t).take j = bytesOf t := List.take_of_length_le (by rw [bytesOf_len]; omega)
    rw [hall] at hd ha
    have hb := valL_small (bytesOf t) hd (by rw [bytesOf_len]; exact ht)
    rw [← ha] at hb ⊢
    have hm : -1000000000 < sg * a ∧ sg * a < 1000000000 := by rcases hsg with h | h <;> rw [h] <;> omega
    have e1 : wrap64 (sg * a) = sg * a := w64 (by omega) (by omega)
    have c0 : ¬ ((j : Int) < (t.size : Int)) := by omega
    refine Ev.step (fun k => by rw [impl_ReadDec.l0, if_neg c0, e1, impl_Dec_eq _ (by omega) (by omega), Option.bind_some]) ?_
    simp only [decS_iff]
    by_cases c : decS (sg * a) = s
    · rw [if_pos c, if_pos ⟨allDig_iff.2 hd, c⟩]; exact Ev.now _
    · rw [if_neg c, if_neg (fun h => c h.2)]; exact Ev.now _
  | succ d ih =>
    intro j a hj hd ha
    have hjl : j < t.size := by omega
    have htk := take_bytes_succ t j hjl
    have hb := bt_u8 t (j : Int)
    have c0 : (j : Int) < (t.size : Int) := by omega
    have c1 : (0 : Int) ≤ (j : Int) := Int.natCast_nonneg _
    have hmem : bt t (j : Int) ∈ bytesOf t := by
      have h2 : bt t (j : Int) ∈ (bytesOf t).take (j + 1) := by rw [htk]; simp
      exact List.mem_of_mem_take h2
    by_cases c2 : bt t (j : Int) < 48
    · refine Ev.step (fun k => by rw [impl_ReadDec.l0, if_pos c0, if_pos c1, if_pos c0, if_pos c2]) ?_
      rw [if_neg (fun h => by have := allDig_iff.1 h.1 _ hmem; omega)]
      exact Ev.now _
    · by_cases c3 : bt t (j : Int) > 57
      · refine Ev.step (fun k => by rw [impl_ReadDec.l0, if_pos c0, if_pos c1, if_pos c0, if_neg c2, if_pos c3]) ?_
        rw [if_neg (fun h => by have := allDig_iff.1 h.1 _ hmem; omega)]
        exact Ev.now _
      · have hbn := valL_small ((bytesOf t).take j) hd (by rw [List.length_take]; omega)
        rw [← ha] at hbn
        have e1 : (bt t (j : Int) - 48) % 256 = bt t (j : Int) - 48 := by omega
        have e2 : wrap64 (wrap64 (10 * a) + (bt t (j : Int) - 48)) = a * 10 + (bt t (j : Int) - 48) := by rw [w64 (n := 10 * a) (by omega) (by omega), w64 (by omega) (by omega)]; omega
        have e4 : wrap64 ((j : Int) + 1) = ((j + 1 : Nat) : Int) := by rw [w64 (by omega) (by omega)]; rfl
        refine Ev.step (fun k => by rw [impl_ReadDec.l0, if_pos c0, if_pos c1, if_pos c0, if_neg c2, if_neg c3, e1, e2, e4]) ?_
        refine ih (j + 1) _ (by omega) ?_ ?_
        · intro x hx
          rw [htk, List.mem_append, List.mem_singleton] at hx
          rcases hx with hx | rfl
          · exact hd x hx
          · omega
        · rw [htk, valL_app, ← ha]; rfl
theorem head_bt (s : ByteArray) (h : 0 < s.size) : (bytesOf s).head? = some (bt s 0) := by
  have := drop_bytes s 0 h
  rw [List.drop_zero] at this
  rw [this]; rfl
theorem impl_ReadDec_j1 (s t : ByteArray) (sg : Int) (hsg : sg = 1 ∨ sg = -1) : Ev (fun k => impl_ReadDec.j1 k s t sg) (if ((1 ≤ (bytesOf t).length ∧ (bytesOf t).length ≤ 9) ∧ allDig (bytesOf t) = true) ∧ decS (sg * valL (bytesOf t) 0) = s then (sg * valL (bytesOf t) 0, true) else (0, false)) := by
  refine Ev.step (fun k => by rw [impl_ReadDec.j1]) ?_
  simp only [impl_within_eq, Option.bind_some, decide_eq_true_eq]
  rw [bytesOf_len]
  by_cases c : 1 ≤ (t.size : Int) ∧ (t.size : Int) ≤ 9
  · simp only [if_pos c]
    have h9 : t.size ≤ 9 := by omega
    have h1 : 1 ≤ t.size := by omega
    have := impl_ReadDec_l0 s t sg hsg h9 t.size 0 0 (by omega) (by simp) rfl
    have e : (((1 ≤ t.size ∧ t.size ≤ 9) ∧ allDig (bytesOf t) = true) ∧ decS (sg * valL (bytesOf t) 0) = s) = (allDig (bytesOf t) = true ∧ decS (sg * valL (bytesOf t) 0) = s) := by
      apply propext
      exact ⟨fun h => ⟨h.1.2, h.2⟩, fun h => ⟨⟨⟨h1, h9⟩, h.1⟩, h.2⟩⟩
    simp only [e]
    exact this
  · simp only [if_neg c]
    rw [if_neg (fun h => c ⟨by have := h.1.1.1; omega, by have := h.1.1.2; omega⟩)]
    exact Ev.now _
theorem impl_ReadDec_ev (s : ByteArray) (hs : s.size ≤ 1048576) : Ev (fun k => impl_ReadDec.f k s) (readDec s) := by
  unfold impl_ReadDec.f
  by_cases c : (s.size : Int) > 0
  · have hh := head_bt s (by omega)
    simp only [if_pos c]
    refine Ev.step (fun k => by rw [impl_ReadDec.j0]) ?_
    by_cases c2 : bt s 0 = 45
    · have e1 : (bt s 0 == 45) = true := beq_iff_eq.2 c2
      simp only [e1, if_true, if_pos (show 1 ≤ (s.size : Int) by omega)]
      have := impl_ReadDec_j1 s (s.extract 1 s.size) (-1) (.inr rfl)
      have e2 : bytesOf (s.extract 1 s.size) = restL (bytesOf s) := by
        unfold restL
        rw [hh, c2, if_pos rfl, bytesOf_extract, ← bytesOf_len, List.take_length]
        cases bytesOf s <;> rfl
      have e3 : signI (bytesOf s) = -1 := by unfold signI; rw [hh, c2, if_pos rfl]
      rw [e2] at this
      unfold readDec
      rw [e3]
      exact this
    · have e1 : (bt s 0 == 45) = false := beq_eq_false_iff_ne.2 c2
      simp only [e1, Bool.false_eq_true, if_false]
      have := impl_ReadDec_j1 s s 1 (.inl rfl)
      have hne : ¬ (bytesOf s).head? = some 45 := by rw [hh]; intro h; exact c2 (Option.some.inj h)
      have e2 : restL (bytesOf s) = bytesOf s := by unfold restL; rw [if_neg hne]
      have e3 : signI (bytesOf s) = 1 := by unfold signI; rw [if_neg hne]
      unfold readDec
      rw [e2, e3]
      exact this
  · simp only [if_neg c]
    refine Ev.step (fun k => by rw [impl_ReadDec.j0]) ?_
    simp only [Bool.false_eq_true, if_false]
    have := impl_ReadDec_j1 s s 1 (.inl rfl)
    have h0 : bytesOf s = [] := List.length_eq_zero_iff.1 (by rw [bytesOf_len]; omega)
    have hne : ¬ (bytesOf s).head? = some 45 := by rw [h0]; simp
    have e2 : restL (bytesOf s) = bytesOf s := by unfold restL; rw [if_neg hne]
    have e3 : signI (bytesOf s) = 1 := by unfold signI; rw [if_neg hne]
    unfold readDec
    rw [e2, e3]
    exact this

-- imports: DN
theorem law : laws_FnExactReadDec.Pure := by
  intro s _
  refine Ev.rounds ?_
  unfold laws_FnExactReadDec.f
  by_cases h : (s.size : Int) > 1048576
  · simp only [if_pos h]; exact Ev.now _
  · simp only [if_neg h]
    refine Ev.bind (spec_ReadDec_ev s) (Ev.bind (impl_ReadDec_ev s (by omega)) ?_)
    simp only [if_true, bne_self_eq_false, Bool.false_eq_true, if_false]
    exact Ev.now _

end Go.Proofs.YtbdjconojnjgdaaDoor.PureFnExactReadDec
namespace Go.Proofs.YtbdjconojnjgdaaDoor.Pure
open Go.RowKit Go.Proofs.YtbdjconojnjgdaaDoor.HFnExactReadDec
theorem FnExactReadDec : laws_FnExactReadDec.Pure := Go.Proofs.YtbdjconojnjgdaaDoor.PureFnExactReadDec.law
end Go.Proofs.YtbdjconojnjgdaaDoor.Pure
