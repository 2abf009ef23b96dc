/- For every code: what is written of the numbers and the bytes drawn from it is read again, whatever follows; and nothing else is read. Condition: none but the model's own bound on a slice's size. -/
import Derived.Test.YtbdjconojnjgdaaDoorHFnNumbersx6
import Derived.Test.YtbdjconojnjgdaaDoorM
import Derived.Test.YtbdjconojnjgdaaDoorDN
import Derived.Test.YtbdjconojnjgdaaDoorNV
import Derived.Test.YtbdjconojnjgdaaDoorMB
import Derived.Test.YtbdjconojnjgdaaDoorTB
namespace Go.Proofs.YtbdjconojnjgdaaDoor.PureFnNumbers
open Go.RowKit Go.Proofs.YtbdjconojnjgdaaDoor.HFnNumbers Go.Proofs.YtbdjconojnjgdaaDoorW.PrintWords Go.Proofs.YtbdjconojnjgdaaDoorW.PrintLast Go.Proofs.YtbdjconojnjgdaaDoorW.PrintMore Go.Proofs.YtbdjconojnjgdaaDoor.M
set_option linter.unusedVariables false
set_option linter.unusedSimpArgs false

/-! impl_Dec -/
theorem impl_Dec_eq (n : Int) (h0 : -9223372036854775808 ≤ n) (h1 : n ≤ 9223372036854775807) : impl_Dec.f n = some (decS n) := by
  unfold impl_Dec.f strconv_Itoa.f
  rw [if_pos ⟨h0, h1⟩, Option.bind_some, itoa_decS]

/-! impl_within -/
theorem impl_within_eq (a b c : Int) : impl_within.f a b c = some (decide (b ≤ a ∧ a ≤ c)) := by
  unfold impl_within.f
  by_cases h : b ≤ a
  · rw [if_pos h]; simp [h]
  · rw [if_neg h]; simp [h]

/-! impl_ReadDec -/
theorem decS_iff (m : Int) (s : ByteArray) : (decS m).toList = s.toList ↔ decS m = s := ⟨fun h => ba_ext h, fun h => by rw [h]⟩
theorem impl_ReadDec_l0 (s t : ByteArray) (sg : Int) (hsg : sg = 1 ∨ sg = -1) (ht : t.size ≤ 9) (d : Nat) : ∀ (j : Nat) (a : Int), j + d = t.size → (∀ x ∈ (bytesOf t).take j, 48 ≤ x ∧ x ≤ 57) → a = valL ((bytesOf t).take j) 0 →
    Ev (fun k => impl_ReadDec.l0 k s t sg a (t.size : Int) j) (if allDig (bytesOf t) = true ∧ decS (sg * valL (bytesOf t) 0) = s then (sg * valL (bytesOf t) 0, true) else (0, false)) := by
  induction d with
  | zero =>
    intro j a hj hd ha
    have hall : (bytesOf t).take j = bytesOf t := List.take_of_length_le (by rw [bytesOf_len]; omega)
    rw [hall] at hd ha
    have hb := valL_small (bytesOf t) hd (by rw [bytesOf_len]; exact ht)
    rw [← ha] at hb ⊢
    have hm : -1000000000 < sg * a ∧ sg * a < 1000000000 := by rcases hsg with h | h <;> rw [h] <;> omega
    have e1 : wrap64 (sg * a) = sg * a := w64 (by omega) (by omega)
    have c0 : ¬ ((j : Int) < (t.size : Int)) := by omega
    refine Ev.step (fun k => by rw [impl_ReadDec.l0, if_neg c0, e1, impl_Dec_eq _ (by omega) (by omega), Option.bind_some]) ?_
    simp only [decS_iff]
    by_cases c : decS (sg * a) = s
    · rw [if_pos c, if_pos ⟨allDig_iff.2 hd, c⟩]; exact Ev.now _
    · rw [if_neg c, if_neg (fun h => c h.2)]; exact Ev.now _
  | succ d ih =>
    intro j a hj hd ha
    have hjl : j < t.size := by omega
    have htk := take_bytes_succ t j hjl
    have hb := bt_u8 t (j : Int)
    have c0 : (j : Int) < (t.size : Int) := by omega
    have c1 : (0 : Int) ≤ (j : Int) := Int.natCast_nonneg _
    have hmem : bt t (j : Int) ∈ bytesOf t := by
      have h2 : bt t (j : Int) ∈ (bytesOf t).take (j + 1) := by rw [htk]; simp
      exact List.mem_of_mem_take h2
    by_cases c2 : bt t (j : Int) < 48
    · refine Ev.step (fun k => by rw [impl_ReadDec.l0, if_pos c0, if_pos c1, if_pos c0, if_pos c2]) ?_
      rw [if_neg (fun h => by have := allDig_iff.1 h.1 _ hmem; omega)]
      exact Ev.now _
    · by_cases c3 : bt t (j : Int) > 57
      · refine Ev.step (fun k => by rw [impl_ReadDec.l0, if_pos c0, if_pos c1, if_pos c0, if_neg c2, if_pos c3]) ?_
        rw [if_neg (fun h => by have := allDig_iff.1 h.1 _ hmem; omega)]
        exact Ev.now _
      · have hbn := valL_small ((bytesOf t).take j) hd (by rw [List.length_take]; omega)
        rw [← ha] at hbn
        have e1 : (bt t (j : Int) - 48) % 256 = bt t (j : Int) - 48 := by omega
        have e2 : wrap64 (wrap64 (10 * a) + (bt t (j : Int) - 48)) = a * 10 + (bt t (j : Int) - 48) := by rw [w64 (n := 10 * a) (by omega) (by omega), w64 (by omega) (by omega)]; omega
        have e4 : wrap64 ((j : Int) + 1) = ((j + 1 : Nat) : Int) := by rw [w64 (by omega) (by omega)]; rfl
        refine Ev.step (fun k => by rw [impl_ReadDec.l0, if_pos c0, if_pos c1, if_pos c0, if_neg c2, if_neg c3, e1, e2, e4]) ?_
        refine ih (j + 1) _ (by omega) ?_ ?_
        · intro x hx
          rw [htk, List.mem_append, List.mem_singleton] at hx
          rcases hx with hx | rfl
          · exact hd x hx
          · omega
        · rw [htk, valL_app, ← ha]; rfl
theorem head_bt (s : ByteArray) (h : 0 < s.size) : (bytesOf s).head? = some (bt s 0) := by
  have := drop_bytes s 0 h
  rw [List.drop_zero] at this
  rw [this]; rfl
theorem impl_ReadDec_j1 (s t : ByteArray) (sg : Int) (hsg : sg = 1 ∨ sg = -1) : Ev (fun k => impl_ReadDec.j1 k s t sg) (if ((1 ≤ (bytesOf t).length ∧ (bytesOf t).length ≤ 9) ∧ allDig (bytesOf t) = true) ∧ decS (sg * valL (bytesOf t) 0) = s then (sg * valL (bytesOf t) 0, true) else (0, false)) := by
  refine Ev.step (fun k => by rw [impl_ReadDec.j1]) ?_
  simp only [impl_within_eq, Option.bind_some, decide_eq_true_eq]
  rw [bytesOf_len]
  by_cases c : 1 ≤ (t.size : Int) ∧ (t.size : Int) ≤ 9
  · simp only [if_pos c]
    have h9 : t.size ≤ 9 := by omega
    have h1 : 1 ≤ t.size := by omega
    have := impl_ReadDec_l0 s t sg hsg h9 t.size 0 0 (by omega) (by simp) rfl
    have e : (((1 ≤ t.size ∧ t.size ≤ 9) ∧ allDig (bytesOf t) = true) ∧ decS (sg * valL (bytesOf t) 0) = s) = (allDig (bytesOf t) = true ∧ decS (sg * valL (bytesOf t) 0) = s) := by
      apply propext
      exact ⟨fun h => ⟨h.1.2, h.2⟩, fun h => ⟨⟨⟨h1, h9⟩, h.1⟩, h.2⟩⟩
    simp only [e]
    exact this
  · simp only [if_neg c]
    rw [if_neg (fun h => c ⟨by have := h.1.1.1; omega, by have := h.1.1.2; omega⟩)]
    exact Ev.now _
theorem impl_ReadDec_ev (s : ByteArray) (hs : s.size ≤ 1048576) : Ev (fun k => impl_ReadDec.f k s) (readDec s) := by
  unfold impl_ReadDec.f
  by_cases c : (s.size : Int) > 0
  · have hh := head_bt s (by omega)
    simp only [if_pos c]
    refine Ev.step (fun k => by rw [impl_ReadDec.j0]) ?_
    by_cases c2 : bt s 0 = 45
    · have e1 : (bt s 0 == 45) = true := beq_iff_eq.2 c2
      simp only [e1, if_true, if_pos (show 1 ≤ (s.size : Int) by omega)]
      have := impl_ReadDec_j1 s (s.extract 1 s.size) (-1) (.inr rfl)
      have e2 : bytesOf (s.extract 1 s.size) = restL (bytesOf s) := by
        unfold restL
        rw [hh, c2, if_pos rfl, bytesOf_extract, ← bytesOf_len, List.take_length]
        cases bytesOf s <;> rfl
      have e3 : signI (bytesOf s) = -1 := by unfold signI; rw [hh, c2, if_pos rfl]
      rw [e2] at this
      unfold readDec
      rw [e3]
      exact this
    · have e1 : (bt s 0 == 45) = false := beq_eq_false_iff_ne.2 c2
      simp only [e1, Bool.false_eq_true, if_false]
      have := impl_ReadDec_j1 s s 1 (.inl rfl)
      have hne : ¬ (bytesOf s).head? = some 45 := by rw [hh]; intro h; exact c2 (Option.some.inj h)
      have e2 : restL (bytesOf s) = bytesOf s := by unfold restL; rw [if_neg hne]
      have e3 : signI (bytesOf s) = 1 := by unfold signI; rw [if_neg hne]
      unfold readDec
      rw [e2, e3]
      exact this
  · simp only [if_neg c]
    refine Ev.step (fun k => by rw [impl_ReadDec.j0]) ?_
    simp only [Bool.false_eq_true, if_false]
    have := impl_ReadDec_j1 s s 1 (.inl rfl)
    have h0 : bytesOf s = [] := List.length_eq_zero_iff.1 (by rw [bytesOf_len]; omega)
    have hne : ¬ (bytesOf s).head? = some 45 := by rw [h0]; simp
    have e2 : restL (bytesOf s) = bytesOf s := by unfold restL; rw [if_neg hne]
    have e3 : signI (bytesOf s) = 1 := by unfold signI; rw [if_neg hne]
    unfold readDec
    rw [e2, e3]
    exact this

/-! laws_big -/
theorem big_eq (c : List Int) : laws_big.f c = some (decide ((c.length : Int) > 1048576)) := rfl

/-! spec_l1New -/
theorem new_l0 (c : List Int) (hc : c.length ≤ 1048576) (d : Nat) : ∀ (h : Int) (j : Nat), j + d = c.length → ∃ h', Ev (fun k => spec_l1New.l0 k c h j) (c, 0, h') := by
  induction d with
  | zero =>
    intro h j hj
    exact ⟨h, Ev.step (f := fun _ => some (c, 0, h)) (fun k => by rw [spec_l1New.l0, if_neg (by omega)]) (Ev.now _)⟩
  | succ d ih =>
    intro h j hj
    have c1 : (j : Int) < (c.length : Int) := by omega
    have c2 : (0 : Int) ≤ (j : Int) := by omega
    have e4 : wrap64 ((j : Int) + 1) = ((j + 1 : Nat) : Int) := by rw [w64 (by omega) (by omega)]; rfl
    by_cases g : (j : Int) < 4000
    · obtain ⟨h', a⟩ := ih (Go.bits .and .i64 (wrap64 ((wrap64 ((wrap64 (h * 131)) + (wrap64 (rd c j)))) + 7)) 1073741823) (j + 1) (by omega)
      exact ⟨h', Ev.step (fun k => by rw [spec_l1New.l0, if_pos c1, if_pos g, if_pos c2, e4]) a⟩
    · exact ⟨h, Ev.step (f := fun _ => some (c, 0, h)) (fun k => by rw [spec_l1New.l0, if_pos c1, if_neg g]) (Ev.now _)⟩
theorem new_ok (c : List Int) (hc : c.length ≤ 1048576) : ∃ h', Ev (fun k => spec_l1New.f k c) (c, 0, h') := new_l0 c hc c.length _ 0 (by omega)

/-! spec_l1Byte -/
theorem and255 (x : Int) : 0 ≤ Go.bits .and .i64 x 255 ∧ Go.bits .and .i64 x 255 ≤ 255 := by
  unfold Go.bits
  have h1 : (BitVec.ofInt 64 x &&& BitVec.ofInt 64 255).toNat ≤ 255 := by
    rw [BitVec.toNat_and]
    exact Nat.and_le_right
  have h2 : IntKind.i64.wrap ((BitVec.ofInt 64 x &&& BitVec.ofInt 64 255).toNat : Int) = ((BitVec.ofInt 64 x &&& BitVec.ofInt 64 255).toNat : Int) := wraps_i64 _ (by omega) (by omega)
  show 0 ≤ IntKind.i64.wrap ((BitVec.ofInt 64 x &&& BitVec.ofInt 64 255).toNat : Int) ∧ IntKind.i64.wrap ((BitVec.ofInt 64 x &&& BitVec.ofInt 64 255).toNat : Int) ≤ 255
  rw [h2]
  omega
theorem byte_ok (b : List Int) (hb : b.length ≤ 1048576) (i h : Int) (hi : 0 ≤ i ∧ i ≤ 1048576) : ∃ x i' h', spec_l1Byte.f b i h = some (x, i', h') ∧ (0 ≤ x ∧ x ≤ 255) ∧ (0 ≤ i' ∧ i' ≤ 1048576) := by
  unfold spec_l1Byte.f
  by_cases c : i < (b.length : Int)
  · rw [if_pos c, if_pos hi.1]
    refine ⟨_, _, _, rfl, and255 _, ?_⟩
    rw [w64 (by omega) (by omega)]; omega
  · rw [if_neg c]
    exact ⟨_, _, _, rfl, and255 _, hi⟩

/-! spec_l1Below -/
theorem below_ok (b : List Int) (hb : b.length ≤ 1048576) (i h : Int) (hi : 0 ≤ i ∧ i ≤ 1048576) (n : Int) : ∃ x i' h', spec_l1Below.f b i h n = some (x, i', h') ∧ (0 ≤ x ∧ (0 < n → x < n) ∧ (n ≤ 0 → x = 0)) ∧ (0 ≤ i' ∧ i' ≤ 1048576) := by
  unfold spec_l1Below.f
  by_cases c : n ≤ 0
  · rw [if_pos c]
    exact ⟨_, _, _, rfl, ⟨by omega, by omega, fun _ => rfl⟩, hi⟩
  · rw [if_neg c]
    by_cases c2 : n ≤ 256
    · rw [if_pos c2]
      obtain ⟨x, i1, h1, e1, hx, hi1⟩ := byte_ok b hb i h hi
      rw [e1]
      simp only [Option.bind_some]
      rw [if_neg (by omega)]
      refine ⟨_, _, _, rfl, ⟨?_, ?_, ?_⟩, hi1⟩
      · rw [Int.tmod_eq_emod_of_nonneg hx.1]; exact Int.emod_nonneg _ (by omega)
      · intro _; rw [Int.tmod_eq_emod_of_nonneg hx.1]; exact Int.emod_lt_of_pos _ (by omega)
      · intro g; omega
    · rw [if_neg c2]
      obtain ⟨x1, i1, h1, e1, hx1, hi1⟩ := byte_ok b hb i h hi
      rw [e1]
      simp only [Option.bind_some]
      obtain ⟨x2, i2, h2, e2, hx2, hi2⟩ := byte_ok b hb i1 h1 hi1
      rw [e2]
      simp only [Option.bind_some]
      obtain ⟨x3, i3, h3, e3, hx3, hi3⟩ := byte_ok b hb i2 h2 hi2
      rw [e3]
      simp only [Option.bind_some]
      obtain ⟨x4, i4, h4, e4, hx4, hi4⟩ := byte_ok b hb i3 h3 hi3
      rw [e4]
      simp only [Option.bind_some]
      rw [if_neg (by omega)]
      clear e1 e2 e3 e4
      have g1 : wrap64 (x1 * 16777216) = x1 * 16777216 := w64 (by omega) (by omega)
      have g2 : wrap64 (x2 * 65536) = x2 * 65536 := w64 (by omega) (by omega)
      have g3 : wrap64 (x3 * 256) = x3 * 256 := w64 (by omega) (by omega)
      rw [g1, g2, g3]
      clear g1 g2 g3
      have g4 : wrap64 (x1 * 16777216 + x2 * 65536) = x1 * 16777216 + x2 * 65536 := w64 (by omega) (by omega)
      rw [g4]
      clear g4
      have g5 : wrap64 (x1 * 16777216 + x2 * 65536 + x3 * 256) = x1 * 16777216 + x2 * 65536 + x3 * 256 := w64 (by omega) (by omega)
      rw [g5]
      clear g5
      have g6 : wrap64 (x1 * 16777216 + x2 * 65536 + x3 * 256 + x4) = x1 * 16777216 + x2 * 65536 + x3 * 256 + x4 := w64 (by omega) (by omega)
      rw [g6]
      clear g6
      have g7 : 0 ≤ x1 * 16777216 + x2 * 65536 + x3 * 256 + x4 := by omega
      refine ⟨_, _, _, rfl, ⟨?_, ?_, ?_⟩, hi4⟩
      · rw [Int.tmod_eq_emod_of_nonneg g7]; exact Int.emod_nonneg _ (by omega)
      · intro _; rw [Int.tmod_eq_emod_of_nonneg g7]; exact Int.emod_lt_of_pos _ (by omega)
      · intro g; omega

/-! spec_l1PickInt -/
theorem pickInt_ok (b : List Int) (hb : b.length ≤ 1048576) (i h : Int) (hi : 0 ≤ i ∧ i ≤ 1048576) (l : List Int) (hl : 0 < l.length) : ∃ x i' h', spec_l1PickInt.f b i h l = some (x, i', h') ∧ x ∈ l ∧ (0 ≤ i' ∧ i' ≤ 1048576) := by
  obtain ⟨x, i1, h1, e1, hx, hi1⟩ := below_ok b hb i h hi (l.length : Int)
  unfold spec_l1PickInt.f
  rw [e1]
  simp only [Option.bind_some]
  have hlt := hx.2.1 (by omega)
  rw [if_pos hx.1, if_pos hlt]
  refine ⟨_, _, _, rfl, ?_, hi1⟩
  unfold rd
  have hn : x.toNat < l.length := by omega
  rw [List.getD_eq_getElem?_getD, List.getElem?_eq_getElem hn]
  exact List.getElem_mem hn

/-! spec_l1Num -/
theorem wrap_range (x : Int) : -9223372036854775808 ≤ wrap64 x ∧ wrap64 x ≤ 9223372036854775807 := by unfold wrap64; omega
theorem num_ok (b : List Int) (hb : b.length ≤ 1048576) (i h : Int) (hi : 0 ≤ i ∧ i ≤ 1048576) : ∃ x i' h', spec_l1Num.f b i h = some (x, i', h') ∧ (-9223372036854775808 ≤ x ∧ x ≤ 9223372036854775807) ∧ (0 ≤ i' ∧ i' ≤ 1048576) := by
  obtain ⟨x1, i1, h1, f1, _, hi1⟩ := below_ok b hb i h hi 8
  unfold spec_l1Num.f
  rw [f1, Option.bind_some]
  by_cases c0 : x1 = 0
  · obtain ⟨x2, i2, h2, f2, hx2, hi2⟩ := pickInt_ok b hb i1 h1 hi1 [(-1), 0, 127, 128, 255, 256, 16383, 16384, 65535, 65536, 562949953421311, 562949953421312, 999999999, 1000000000, (-999999999), 9223372036854775807, (-9223372036854775808)] (by decide)
    rw [if_pos c0, f2, Option.bind_some]
    refine ⟨x2, i2, h2, rfl, ?_, hi2⟩
    simp only [List.mem_cons, List.not_mem_nil, or_false] at hx2
    omega
  · rw [if_neg c0]
    by_cases c1 : x1 = 1
    · obtain ⟨x2, i2, h2, f2, _, hi2⟩ := below_ok b hb i1 h1 hi1 1000000000
      obtain ⟨x3, i3, h3, f3, _, hi3⟩ := below_ok b hb i2 h2 hi2 1000000000
      rw [if_pos c1, f2, Option.bind_some, f3, Option.bind_some]
      exact ⟨_, i3, h3, rfl, wrap_range _, hi3⟩
    · rw [if_neg c1]
      by_cases c2 : x1 = 2
      · obtain ⟨x2, i2, h2, f2, _, hi2⟩ := below_ok b hb i1 h1 hi1 100000
        rw [if_pos c2, f2, Option.bind_some]
        exact ⟨_, i2, h2, rfl, wrap_range _, hi2⟩
      · obtain ⟨x2, i2, h2, f2, hx2, hi2⟩ := below_ok b hb i1 h1 hi1 70000
        rw [if_neg c2, f2, Option.bind_some]
        have := hx2.2.1 (by omega)
        exact ⟨x2, i2, h2, rfl, by omega, hi2⟩

/-! spec_DrawVar -/
theorem drawVar_ok (c : List Int) (hc : c.length ≤ 1048576) : ∃ n, Ev (fun k => spec_DrawVar.f k c) n ∧ (-9223372036854775808 ≤ n ∧ n ≤ 9223372036854775807) := by
  obtain ⟨h, a⟩ := new_ok c hc
  obtain ⟨x, i', h', f1, hx, _⟩ := num_ok c hc 0 h (by omega)
  refine ⟨x, ?_, hx⟩
  unfold spec_DrawVar.f
  refine Ev.bind a ?_
  simp only [f1, Option.bind_some]
  exact Ev.now _

/-! spec_l1Text -/
theorem text_l0 (b : List Int) (hb : b.length ≤ 1048576) (st : Int) (d : Nat) : ∀ (acc : List Int) (i h : Int), acc.length ≤ 1000 - d → d ≤ 1000 → (0 ≤ i ∧ i ≤ 1048576) → ∃ s i' h', Ev (fun k => spec_l1Text.l0 k acc st d b i h) (s, i', h') ∧ s.size ≤ 1000 ∧ (0 ≤ i' ∧ i' ≤ 1048576) := by
  induction d with
  | zero =>
    intro acc i h ha _ hi
    have c0 : ¬ (((0 : Nat) : Int) > 0) := by decide
    exact ⟨_, i, h, Ev.step (f := fun _ => some (strOfNums acc, i, h)) (fun k => by rw [spec_l1Text.l0, if_neg c0]) (Ev.now _), by rw [strOfNums_size]; omega, hi⟩
  | succ d ih =>
    intro acc i h ha hd hi
    obtain ⟨x1, i1, h1, f1, _, hi1⟩ := byte_ok b hb i h hi
    have c0 : (((d + 1 : Nat) : Int) > 0) := by omega
    have e1 : wrap64 (((d + 1 : Nat) : Int) - 1) = ((d : Nat) : Int) := by rw [w64 (by omega) (by omega)]; omega
    have c1 : acc.length < 140737488355328 := by omega
    have key : ∀ c : Int, ∃ s i' h', Ev (fun k => spec_l1Text.l0 k (acc ++ [c]) st d b i1 h1) (s, i', h') ∧ s.size ≤ 1000 ∧ (0 ≤ i' ∧ i' ≤ 1048576) := fun c => ih (acc ++ [c]) i1 h1 (by rw [List.length_append, List.length_singleton]; omega) (by omega) hi1
    by_cases s1 : st = 1
    · by_cases s2 : st = 2
      · obtain ⟨s, i', h', g1, g2, g3⟩ := key ((wrap64 (97 + (Int.tmod (Int.tmod x1 2) 4))) % 256)
        exact ⟨s, i', h', Ev.step (fun k => by rw [spec_l1Text.l0, if_pos c0, f1, Option.bind_some, if_pos s1, if_pos s2, if_pos c1, e1]) g1, g2, g3⟩
      · obtain ⟨s, i', h', g1, g2, g3⟩ := key ((Int.tmod x1 2) % 256)
        exact ⟨s, i', h', Ev.step (fun k => by rw [spec_l1Text.l0, if_pos c0, f1, Option.bind_some, if_pos s1, if_neg s2, if_pos c1, e1]) g1, g2, g3⟩
    · by_cases s2 : st = 2
      · obtain ⟨s, i', h', g1, g2, g3⟩ := key ((wrap64 (97 + (Int.tmod x1 4))) % 256)
        exact ⟨s, i', h', Ev.step (fun k => by rw [spec_l1Text.l0, if_pos c0, f1, Option.bind_some, if_neg s1, if_pos s2, if_pos c1, e1]) g1, g2, g3⟩
      · obtain ⟨s, i', h', g1, g2, g3⟩ := key (x1 % 256)
        exact ⟨s, i', h', Ev.step (fun k => by rw [spec_l1Text.l0, if_pos c0, f1, Option.bind_some, if_neg s1, if_neg s2, if_pos c1, e1]) g1, g2, g3⟩
theorem text_ok (b : List Int) (hb : b.length ≤ 1048576) (i h : Int) (hi : 0 ≤ i ∧ i ≤ 1048576) (n : Int) (h0 : 0 ≤ n) (hn : n ≤ 900) : ∃ s i' h', Ev (fun k => spec_l1Text.f k b i h n) (s, i', h') ∧ s.size ≤ 1000 ∧ (0 ≤ i' ∧ i' ≤ 1048576) := by
  obtain ⟨x1, i1, h1, f1, _, hi1⟩ := below_ok b hb i h hi 4
  have e1 : wrap64 (n + 1) = n + 1 := w64 (by omega) (by omega)
  obtain ⟨x2, i2, h2, f2, hx2, hi2⟩ := below_ok b hb i1 h1 hi1 (wrap64 (n + 1))
  rw [e1] at hx2
  have hlt := hx2.2.1 (by omega)
  obtain ⟨d, rfl⟩ := Int.eq_ofNat_of_zero_le hx2.1
  obtain ⟨s, i', h', g1, g2, g3⟩ := text_l0 b hb x1 d [] i2 h2 (by simp) (by omega) hi2
  refine ⟨s, i', h', ?_, g2, g3⟩
  unfold spec_l1Text.f
  simp only [f1, f2, Option.bind_some]
  exact g1

/-! spec_DrawHex -/
theorem drawHex_ok (c : List Int) (hc : c.length ≤ 1048576) : ∃ s, Ev (fun k => spec_DrawHex.f k c) s ∧ s.size ≤ 1000 := by
  obtain ⟨h, a⟩ := new_ok c hc
  obtain ⟨s, i', h', f1, hs, _⟩ := text_ok c hc 0 h (by omega) 40 (by omega) (by omega)
  exact ⟨s, by unfold spec_DrawHex.f; exact Ev.bind a (Ev.bind f1 (Ev.now _)), hs⟩

/-! impl_Var -/
theorem impl_Var_l0 : ∀ (n : Nat) (acc : List Int), n < 9223372036854775808 → acc.length + (varB n).length ≤ 140737488355328 → Ev (fun k => impl_Var.l0 k n acc) (strOfNums (acc ++ varB n)) := by
  intro n
  induction n using Nat.strongRecOn with
  | _ n ih =>
    intro acc hn hl
    by_cases h : n < 128
    · rw [varB_lt h] at hl ⊢
      simp only [List.length_cons, List.length_nil] at hl
      refine Ev.step (fun k => by simp only [impl_Var.l0]; rw [if_neg (by omega), if_pos (by omega)]) ?_
      refine evSome ?_
      rw [Int.emod_eq_of_lt (by omega) (by omega)]
    · rw [varB_ge h] at hl ⊢
      simp only [List.length_cons] at hl
      refine Ev.step (fun k => by simp only [impl_Var.l0]; rw [if_pos (by omega), if_pos (by omega)]) ?_
      have e1 : (n : Int) / 128 = ((n / 128 : Nat) : Int) := by omega
      have e2 : Go.bits .or .u8 ((Go.bits .and .i64 (n : Int) 127) % 256) 128 = 128 + (n : Int) % 128 := by
        rw [and127_i64 (by omega) (by omega), Int.emod_eq_of_lt (a := (n : Int) % 128) (by omega) (by omega), or128_u8 (by omega) (by omega)]
      rw [e1, e2]
      have := ih (n / 128) (by omega) (acc ++ [128 + (n : Int) % 128]) (by omega) (by simp only [List.length_append, List.length_cons, List.length_nil]; omega)
      simpa only [List.append_assoc, List.cons_append, List.nil_append] using this
theorem impl_Var_ev (n : Int) : Ev (fun k => impl_Var.f k n) (varS n) := by
  unfold impl_Var.f varS
  simp only [impl_within_eq, Option.bind_some, decide_eq_true_eq]
  by_cases h : 0 ≤ n ∧ n ≤ 562949953421311
  · rw [if_pos h]
    simp only [if_pos h]
    obtain ⟨m, rfl⟩ := Int.eq_ofNat_of_zero_le h.1
    have hl := varB_len 7 m (by omega)
    have := impl_Var_l0 m [] (by omega) (by simp; omega)
    simpa only [List.nil_append, Int.toNat_natCast] using this
  · rw [if_neg h]
    simp only [if_neg h]
    exact Ev.now _

/-! impl_ReadVar -/
theorem p128 (i : Nat) (h : i ≤ 7) : (128 : Int) ^ i ≤ 562949953421312 := by
  have h1 : (128 : Nat) ^ i ≤ 128 ^ 7 := Nat.pow_le_pow_right (by decide) h
  have h2 : ((128 ^ i : Nat) : Int) ≤ ((128 ^ 7 : Nat) : Int) := by omega
  simpa using h2
theorem p128_pos (i : Nat) : (0 : Int) < 128 ^ i := Int.pow_pos (by decide)
theorem or_piece (b n : Int) (i : Nat) (hi : i ≤ 6) (h0 : 0 ≤ b) (h1 : b ≤ 255) (hn : 0 ≤ n) (hn1 : n < 128 ^ i) :
    Go.bits .or .i64 n (shl .i64 (wrap64 (Go.bits .and .u8 b 127)) (wrap64 (7 * (i : Int)))) = n + b % 128 * 128 ^ i ∧ n + b % 128 * 128 ^ i < 128 ^ (i + 1) := by
  have hp := p128 (i + 1) (by omega)
  have hq := p128_pos i
  have e7 : (2 : Int) ^ (7 * i) = 128 ^ i := by rw [Int.pow_mul]; rfl
  have hb : b % 128 * 128 ^ i ≤ 127 * 128 ^ i := Int.mul_le_mul_of_nonneg_right (by omega) (by omega)
  have hb0 : 0 ≤ b % 128 * 128 ^ i := Int.mul_nonneg (by omega) (by omega)
  have hmod : (b % 128 * 128 ^ i) % 2 ^ (7 * i) = 0 := by rw [e7]; exact Int.mul_emod_left _ _
  have hs : (128 : Int) ^ (i + 1) = 128 ^ i * 128 := Int.pow_succ ..
  rw [hs] at hp ⊢
  have e1 : shl .i64 (wrap64 (Go.bits .and .u8 b 127)) (wrap64 (7 * (i : Int))) = b % 128 * 128 ^ i := by
    unfold shl
    rw [and127_u8 h0 (by omega), w64 (n := b % 128) (by omega) (by omega), w64 (n := 7 * (i : Int)) (by omega) (by omega)]
    rw [show min (7 * (i : Int)).toNat IntKind.i64.bits = 7 * i by simp only [IntKind.bits]; omega, e7]
    generalize b % 128 * 128 ^ i = y at *
    exact wraps_i64 _ hb0 (by omega)
  rw [e1]
  refine ⟨or_low (7 * i) hn (by rw [e7]; exact hn1) hb0 ?_ hmod (by omega), ?_⟩
  · generalize b % 128 * 128 ^ i = y at *; omega
  · generalize b % 128 * 128 ^ i = y at *; omega
theorem impl_ReadVar_l0 (s : ByteArray) (m : Nat) (hm : m ≤ 7) (hs : m ≤ s.size) (d : Nat) : ∀ (i : Nat) (n : Int), i + d = m → 0 ≤ n → n < 128 ^ i → Ev (fun k => impl_ReadVar.l0 k s n m i) (rvGo s d i n) := by
  induction d with
  | zero =>
    intro i n hi h0 h1
    exact Ev.step (f := fun _ => some (0, 0)) (fun k => by simp only [impl_ReadVar.l0]; rw [if_neg (by omega)]) (Ev.now _)
  | succ d ih =>
    intro i n hi h0 h1
    have hb := bt_u8 s (i : Int)
    obtain ⟨e1, hlt⟩ := or_piece (bt s i) n i (by omega) hb.1 hb.2 h0 h1
    have hge : 0 ≤ n + bt s i % 128 * 128 ^ i := by
      have := Int.mul_nonneg (show 0 ≤ bt s (i : Int) % 128 by omega) (Int.le_of_lt (p128_pos i))
      omega
    have hp := p128 (i + 1) (by omega)
    have hmax : ¬ (n + bt s i % 128 * 128 ^ i > 562949953421311) := by
      generalize n + bt s i % 128 * 128 ^ i = y at *
      generalize (128 : Int) ^ (i + 1) = z at *
      omega
    have c1 : (i : Int) < (m : Int) := by omega
    have c2 : (0 : Int) ≤ (i : Int) := by omega
    have c3 : (i : Int) < (s.size : Int) := by omega
    have hn := ih (i + 1) (n + bt s i % 128 * 128 ^ i) (by omega) hge hlt
    have c5 : (0 : Int) ≤ wrap64 (7 * (i : Int)) := by rw [w64 (by omega) (by omega)]; omega
    have e4 : wrap64 ((i : Int) + 1) = (i : Int) + 1 := w64 (by omega) (by omega)
    refine Ev.step (fun k => by simp only [impl_ReadVar.l0]; rw [e1, e4, if_pos c1, if_pos c2, if_pos c3, if_pos c5]) ?_
    simp only [rvGo]
    by_cases hlow : bt s (i : Int) < 128
    · simp only [if_pos hlow, if_neg hmax]
      by_cases hpos : (i : Int) > 0
      · simp only [if_pos hpos]
        by_cases hz : bt s (i : Int) = 0
        · simp only [if_pos hz]
          rw [if_pos ⟨Int.natCast_pos.mp hpos, hz⟩]; exact Ev.now _
        · simp only [if_neg hz]
          rw [if_neg (fun h => hz h.2)]; exact Ev.now _
      · simp only [if_neg hpos]
        rw [if_neg (fun h => hpos (Int.natCast_pos.mpr h.1))]; exact Ev.now _
    · simp only [if_neg hlow]
      exact hn
theorem impl_ReadVar_ev (s : ByteArray) (hs : s.size ≤ 140737488351232) : Ev (fun k => impl_ReadVar.f k s) (readVar s) := by
  unfold impl_ReadVar.f readVar
  have e : mn (s.size : Int) 7 = ((min s.size 7 : Nat) : Int) := by
    unfold mn; by_cases h : (7 : Int) < s.size
    · rw [if_pos h]; omega
    · rw [if_neg h]; omega
  rw [e]
  exact impl_ReadVar_l0 s _ (by omega) (by omega) (min s.size 7) 0 0 (by omega) (by omega) (by simp)

/-! impl_Fixed -/
theorem set_mid (i : Nat) (v : Int) (acc : List Int) : (List.replicate (i + 1) (0 : Int) ++ acc).set i v = List.replicate i 0 ++ (v :: acc) := by
  rw [List.replicate_succ', List.append_assoc, List.set_append_right _ _ (by simp)]
  simp
theorem impl_Fixed_l0 (w : Nat) (hw : w ≤ 7) (i : Nat) : ∀ (n : Nat) (acc : List Int), i + acc.length = w → n ≤ 9223372036854775807 → Ev (fun k => impl_Fixed.l0 k n (List.replicate i 0 ++ acc) ((i : Int) - 1)) (strOfNums (fixB i n ++ acc)) := by
  induction i with
  | zero =>
    intro n acc hi hn
    refine Ev.step (fun k => by simp only [impl_Fixed.l0]; rw [if_neg (by omega)]) ?_
    simp only [List.replicate_zero, List.nil_append, fixB]; exact Ev.now _
  | succ i ih =>
    intro n acc hi hn
    have e0 : ((i + 1 : Nat) : Int) - 1 = (i : Int) := by omega
    have e1 : wrap64 ((i : Int) - 1) = (i : Int) - 1 := w64 (by omega) (by omega)
    have hl : (i : Int) < ((List.replicate (i + 1) (0 : Int) ++ acc).length : Int) := by simp; omega
    rw [e0]
    refine Ev.step (fun k => by simp only [impl_Fixed.l0]; rw [if_pos (by omega), if_pos (by omega), if_pos hl]) ?_
    simp only [Int.toNat_natCast, set_mid, e1]
    have := ih (n / 256) ((n : Int) % 256 :: acc) (by simp; omega) (by omega)
    have e2 : (n : Int) / 256 = ((n / 256 : Nat) : Int) := by omega
    rw [e2]
    simpa only [fixB, List.append_assoc, List.cons_append, List.nil_append] using this
theorem impl_Fixed_ev (n w : Int) (h0 : -9223372036854775808 ≤ n) (h1 : n ≤ 9223372036854775807) : Ev (fun k => impl_Fixed.f k n w) (fixedS n w) := by
  unfold impl_Fixed.f fixedS
  simp only [impl_within_eq, Option.bind_some, decide_eq_true_eq]
  by_cases h : 1 ≤ w ∧ w ≤ 7
  · obtain ⟨m, rfl⟩ := Int.eq_ofNat_of_zero_le (show 0 ≤ w by omega)
    simp only [if_pos h]
    by_cases hn : n < 0
    · simp only [if_pos hn]
      refine Ev.step (fun k => by rw [impl_Fixed.j0]) ?_
      simp only [if_true]
      rw [if_neg (by omega)]; exact Ev.now _
    · obtain ⟨q, rfl⟩ := Int.eq_ofNat_of_zero_le (show 0 ≤ n by omega)
      have e0 : wrap64 (8 * (m : Int)) = ((8 * m : Nat) : Int) := by rw [w64 (by omega) (by omega)]; omega
      have e1 : shr .i64 (q : Int) ((8 * m : Nat) : Int) = ((q / 256 ^ m : Nat) : Int) := by
        unfold shr
        have : min ((8 * m : Nat) : Int).toNat IntKind.i64.bits = 8 * m := by
          rw [Int.toNat_natCast]; exact Nat.min_eq_left (by simp only [IntKind.bits]; omega)
        have h2 : (2 : Int) ^ (8 * m) = ((256 ^ m : Nat) : Int) := by
          rw [show (256 : Nat) ^ m = 2 ^ (8 * m) by rw [Nat.pow_mul]]; simp
        rw [this, h2]; rfl
      have e2 : wrap64 ((m : Int) - 1) = (m : Int) - 1 := w64 (by omega) (by omega)
      simp only [if_neg hn, e1, e0, if_pos (show (0 : Int) ≤ ((8 * m : Nat) : Int) by omega)]
      refine Ev.step (fun k => by rw [impl_Fixed.j0]) ?_
      simp only [Int.toNat_natCast, h, true_and, Int.natCast_nonneg]
      by_cases hz : q / 256 ^ m = 0
      · have hb : (((q / 256 ^ m : Nat) : Int) != 0) = false := by rw [hz]; rfl
        simp only [hb, Bool.false_eq_true, if_false]
        simp only [Int.natCast_nonneg, if_true, if_pos hz, if_pos (show m ≤ 281474976710656 by omega), e2]
        have := impl_Fixed_l0 m (by omega) m q [] (by simp) (by omega)
        simpa using this
      · have hb : (((q / 256 ^ m : Nat) : Int) != 0) = true := by rw [bne_iff_ne]; omega
        simp only [hb, if_true, if_neg hz]; exact Ev.now _
  · simp only [if_neg h]
    refine Ev.step (fun k => by rw [impl_Fixed.j0]) ?_
    simp only [if_true]
    rw [if_neg (by simp [h])]; exact Ev.now _

/-! impl_ReadFixed -/
theorem impl_ReadFixed_l0 (s : ByteArray) (w : Nat) (hw : w ≤ 7) (hs : w ≤ s.size) (d : Nat) : ∀ (i : Nat) (n : Int), i + d = w → 0 ≤ n → n < 256 ^ i → Ev (fun k => impl_ReadFixed.l0 k s n w i) (valB s d i n, true) := by
  induction d with
  | zero =>
    intro i n hi h0 h1
    exact Ev.step (f := fun _ => some (n, true)) (fun k => by simp only [impl_ReadFixed.l0]; rw [if_neg (by omega)]) (Ev.now _)
  | succ d ih =>
    intro i n hi h0 h1
    have hb := bt_u8 s (i : Int)
    have hp := p256 i (by omega)
    have c1 : (i : Int) < (w : Int) := by omega
    have c2 : (0 : Int) ≤ (i : Int) := by omega
    have c3 : (i : Int) < (s.size : Int) := by omega
    have c4 : n * 256 + bt s i < 256 ^ (i + 1) := by rw [Int.pow_succ]; omega
    have c5 : n < 281474976710656 := by omega
    clear h1 hp
    have e1 : wrap64 (n * 256) = n * 256 := w64 (by omega) (by omega)
    have e2 : wrap64 (bt s i) = bt s i := w64 (by omega) (by omega)
    have e3 : Go.bits .or .i64 (n * 256) (bt s i) = n * 256 + bt s i := by exact or_high 8 (by omega) (by omega) (by omega) (by omega) (by omega) (by omega)
    have e4 : wrap64 ((i : Int) + 1) = ((i + 1 : Nat) : Int) := by rw [w64 (by omega) (by omega)]; rfl
    refine Ev.step (fun k => by simp only [impl_ReadFixed.l0]; rw [if_pos c1, if_pos c2, if_pos c3, e1, e2, e3, e4]) ?_
    exact ih (i + 1) (n * 256 + bt s i) (by omega) (by omega) c4
theorem impl_ReadFixed_ev (s : ByteArray) (w : Int) : Ev (fun k => impl_ReadFixed.f k s w) (readFixed s w) := by
  unfold impl_ReadFixed.f readFixed
  simp only [impl_within_eq, Option.bind_some, decide_eq_true_eq]
  by_cases h : 1 ≤ w ∧ w ≤ 7
  · obtain ⟨m, rfl⟩ := Int.eq_ofNat_of_zero_le (show 0 ≤ w by omega)
    simp only [if_pos h]
    refine Ev.step (fun k => by rw [impl_ReadFixed.j0]) ?_
    by_cases hn : (s.size : Int) < (m : Int)
    · simp only [decide_eq_true hn, if_true]
      rw [if_neg (by omega)]; exact Ev.now _
    · simp only [decide_eq_false hn, Bool.false_eq_true, if_false]
      rw [if_pos ⟨h, by omega⟩]
      exact impl_ReadFixed_l0 s m (by omega) (by omega) m 0 0 (by omega) (by omega) (by simp)
  · simp only [if_neg h]
    refine Ev.step (fun k => by rw [impl_ReadFixed.j0]) ?_
    simp only [if_true]
    rw [if_neg (by simp [h])]; exact Ev.now _

theorem hexD_lo (i : Nat) (h : i < 10) : hexD i = 48 + i := by
  match i, h with
  | 0, _ | 1, _ | 2, _ | 3, _ | 4, _ | 5, _ | 6, _ | 7, _ | 8, _ | 9, _ => rfl
theorem hexD_hi (i : Nat) (h : i < 6) : hexD ((i + 10 : Nat) : Int) = 97 + i := by
  match i, h with
  | 0, _ | 1, _ | 2, _ | 3, _ | 4, _ | 5, _ => rfl
def hexV (x : Int) : Int := if 48 ≤ x ∧ x ≤ 57 then x - 48 else if 97 ≤ x ∧ x ≤ 102 then x - 87 else -1
theorem hexV_range (x : Int) : -1 ≤ hexV x ∧ hexV x ≤ 15 := by
  unfold hexV
  by_cases h1 : 48 ≤ x ∧ x ≤ 57
  · rw [if_pos h1]; omega
  · rw [if_neg h1]
    by_cases h2 : 97 ≤ x ∧ x ≤ 102
    · rw [if_pos h2]; omega
    · rw [if_neg h2]; omega
theorem hexV_hexD (i : Nat) (h : i < 16) : hexV (hexD i) = i := by
  unfold hexV
  by_cases h1 : i < 10
  · rw [hexD_lo i h1, if_pos (by omega)]; omega
  · have := hexD_hi (i - 10) (by omega)
    rw [show i - 10 + 10 = i by omega] at this
    rw [this, if_neg (by omega), if_pos (by omega)]; omega
theorem hexV_none (x : Int) (h : ∀ i : Nat, i < 16 → hexD i ≠ x) : hexV x = -1 := by
  unfold hexV
  by_cases h1 : 48 ≤ x ∧ x ≤ 57
  · have := h (x - 48).toNat (by omega)
    rw [hexD_lo _ (by omega)] at this; omega
  · rw [if_neg h1]
    by_cases h2 : 97 ≤ x ∧ x ≤ 102
    · have := h ((x - 97).toNat + 10) (by omega)
      rw [hexD_hi _ (by omega)] at this; omega
    · rw [if_neg h2]

/-! impl_half -/
theorem impl_half_ev (x : Int) (h0 : 0 ≤ x) (h1 : x ≤ 255) : Ev (fun k => impl_half.f k x) (hexV x) := by
  unfold impl_half.f
  by_cases a1 : x ≥ 48
  · simp only [if_pos a1]
    refine Ev.step (fun k => by rw [impl_half.j0]) ?_
    by_cases a2 : x ≤ 57
    · have e : hexV x = x - 48 := by unfold hexV; rw [if_pos ⟨a1, a2⟩]
      simp only [decide_eq_true a2, if_true, e]
      exact evSome (by omega)
    · simp only [decide_eq_false a2, Bool.false_eq_true, if_false]
      by_cases a3 : x ≥ 97
      · simp only [if_pos a3]
        by_cases a4 : x ≤ 102
        · have e : hexV x = x - 87 := by unfold hexV; rw [if_neg (fun h => a2 h.2), if_pos ⟨a3, a4⟩]
          simp only [if_pos a4, e]
          exact evSome (by omega)
        · have e : hexV x = -1 := by unfold hexV; rw [if_neg (fun h => a2 h.2), if_neg (fun h => a4 h.2)]
          simp only [if_neg a4, e]
          exact Ev.now _
      · have e : hexV x = -1 := by unfold hexV; rw [if_neg (fun h => a2 h.2), if_neg (fun h => a3 h.1)]
        simp only [if_neg a3, e]
        exact Ev.now _
  · have e : hexV x = -1 := by unfold hexV; rw [if_neg (fun h => a1 h.1), if_neg (fun h => by omega)]
    simp only [if_neg a1, e]
    refine Ev.step (fun k => by rw [impl_half.j0]) ?_
    simp only [Bool.false_eq_true, if_false, if_neg (show ¬ x ≥ 97 by omega)]
    exact Ev.now _

def unhexGo (s : ByteArray) : Nat → Nat → List Int → ByteArray × Bool
  | 0, _, acc => (strOfNums acc, true)
  | d + 1, i, acc =>
    if hexV (bt s (i : Int)) < 0 then (⟨#[]⟩, false)
    else if hexV (bt s ((i + 1 : Nat) : Int)) < 0 then (⟨#[]⟩, false)
    else unhexGo s d (i + 2) (acc ++ [(16 * hexV (bt s (i : Int)) + hexV (bt s ((i + 1 : Nat) : Int))) % 256])
def unhexT (s : ByteArray) : ByteArray × Bool := if (s.size : Int) % 2 = 1 then (⟨#[]⟩, false) else unhexGo s (s.size / 2) 0 []

/-! impl_Unhex -/
theorem impl_Unhex_l0 (s : ByteArray) (hs : s.size ≤ 1048576) (d : Nat) : ∀ (i : Nat) (acc : List Int), i + 2 * d = s.size → acc.length ≤ i → Ev (fun k => impl_Unhex.l0 k s acc i) (unhexGo s d i acc) := by
  induction d with
  | zero =>
    intro i acc hi ha
    exact Ev.step (f := fun _ => some (strOfNums acc, true)) (fun k => by simp only [impl_Unhex.l0]; rw [if_neg (by omega)]) (Ev.now _)
  | succ d ih =>
    intro i acc hi ha
    have c1 : (i : Int) < (s.size : Int) := by omega
    have c2 : (0 : Int) ≤ (i : Int) := by omega
    have c3 : (0 : Int) ≤ ((i + 1 : Nat) : Int) := by omega
    have c4 : ((i + 1 : Nat) : Int) < (s.size : Int) := by omega
    have c5 : acc.length < 140737488355328 := by omega
    have b1 := bt_u8 s (i : Int)
    have b2 := bt_u8 s ((i + 1 : Nat) : Int)
    have h1 := hexV_range (bt s (i : Int))
    have h2 := hexV_range (bt s ((i + 1 : Nat) : Int))
    have e4 : wrap64 ((i : Int) + 1) = ((i + 1 : Nat) : Int) := by rw [w64 (by omega) (by omega)]; rfl
    have e5 : wrap64 ((i : Int) + 2) = ((i + 2 : Nat) : Int) := by rw [w64 (by omega) (by omega)]; rfl
    refine Ev.step (fun k => by rw [impl_Unhex.l0, if_pos c1, if_pos c2, e4, e5]) ?_
    refine Ev.bind (impl_half_ev _ b1.1 b1.2) ?_
    simp only [if_pos c3, if_pos c4]
    refine Ev.bind (impl_half_ev _ b2.1 b2.2) ?_
    simp only [unhexGo]
    by_cases n1 : hexV (bt s (i : Int)) < 0
    · simp only [if_pos n1]; exact Ev.now _
    · simp only [if_neg n1]
      by_cases n2 : hexV (bt s ((i + 1 : Nat) : Int)) < 0
      · simp only [if_pos n2]; exact Ev.now _
      · simp only [if_neg n2, if_pos c5]
        have e6 : wrap64 (wrap64 (16 * hexV (bt s (i : Int))) + hexV (bt s ((i + 1 : Nat) : Int))) = 16 * hexV (bt s (i : Int)) + hexV (bt s ((i + 1 : Nat) : Int)) := by
          rw [w64 (n := 16 * hexV (bt s (i : Int))) (by omega) (by omega), w64 (by omega) (by omega)]
        rw [e6]
        exact ih (i + 2) _ (by omega) (by simp; omega)
theorem impl_Unhex_ev (s : ByteArray) (hs : s.size ≤ 1048576) : Ev (fun k => impl_Unhex.f k s) (unhexT s) := by
  unfold impl_Unhex.f unhexT
  by_cases h : (s.size : Int) % 2 = 1
  · simp only [if_pos h]; exact Ev.now _
  · simp only [if_neg h]
    exact impl_Unhex_l0 s hs (s.size / 2) 0 [] (by omega) (by simp)

/-! impl_Hex -/
theorem impl_Hex_l0 (s : ByteArray) (hs : s.size ≤ 1048576) (d : Nat) : ∀ (i : Nat) (acc : List Int), i + d = s.size → acc.length = 2 * i → Ev (fun k => impl_Hex.l0 k s acc s.size i) (strOfNums (acc ++ hexL ((bytesOf s).drop i))) := by
  induction d with
  | zero =>
    intro i acc hi ha
    rw [drop_bytes_end s i (by omega)]
    refine Ev.step (fun k => by simp only [impl_Hex.l0]; rw [if_neg (by omega)]) ?_
    exact evSome (by simp [hexL])
  | succ d ih =>
    intro i acc hi ha
    have hb := bt_u8 s (i : Int)
    rw [drop_bytes s i (by omega)]
    have e2 : Go.bits .and .u8 (bt s i) 15 = bt s i % 16 := u8_and15 _ (by omega) (by omega)
    have e3 : wrap64 ((i : Int) + 1) = ((i + 1 : Nat) : Int) := by rw [w64 (by omega) (by omega)]; rfl
    have hl : ∀ a b : Int, acc.length + [a, b].length < 140737488355328 := by intro a b; simp only [List.length_cons, List.length_nil]; omega
    refine Ev.step (fun k => by simp only [impl_Hex.l0]; rw [e2, e3, if_pos (by omega), if_pos (by omega), if_pos (by omega), if_pos (by omega), if_pos (by omega), if_pos (by omega), if_pos (by omega)]) ?_
    simp only [Option.bind_some, if_pos (hl _ _)]
    have := ih (i + 1) (acc ++ [hexD (bt s i / 16), hexD (bt s i % 16)]) (by omega) (by simp; omega)
    simpa only [List.append_assoc, List.cons_append, List.nil_append, hexL, hexD] using this
theorem impl_Hex_ev (s : ByteArray) (hs : s.size ≤ 1048576) : Ev (fun k => impl_Hex.f k s) (hexS s) := by
  have := impl_Hex_l0 s hs s.size 0 [] (by omega) rfl
  simpa [hexS, impl_Hex.f] using this

/-! spec_l1In -/
theorem spec_l1In_eq (a b c : Int) : spec_l1In.f a b c = some (decide (b ≤ a ∧ a ≤ c)) := by
  unfold spec_l1In.f
  by_cases h : b ≤ a
  · rw [if_pos h]; simp [h]
  · rw [if_neg h]; simp [h]

/-! spec_Var -/
theorem spec_Var_l0 : ∀ (n : Nat) (acc : List Int), n < 9223372036854775808 → acc.length + (varB n).length ≤ 140737488355328 → Ev (fun k => spec_Var.l0 k n acc) (strOfNums (acc ++ varB n)) := by
  intro n
  induction n using Nat.strongRecOn with
  | _ n ih =>
    intro acc hn hl
    by_cases h : n < 128
    · rw [varB_lt h] at hl ⊢
      simp only [List.length_cons, List.length_nil] at hl
      refine Ev.step (fun k => by simp only [spec_Var.l0]; rw [if_neg (by omega), if_pos (by omega)]) ?_
      refine evSome ?_
      rw [Int.emod_eq_of_lt (by omega) (by omega)]
    · rw [varB_ge h] at hl ⊢
      simp only [List.length_cons] at hl
      refine Ev.step (fun k => by simp only [spec_Var.l0]; rw [if_pos (by omega), if_pos (by omega)]) ?_
      have e1 : wrap64 (Int.tdiv (n : Int) 128) = ((n / 128 : Nat) : Int) := by
        rw [Int.tdiv_eq_ediv_of_nonneg (by omega), w64 (by omega) (by omega)]; rfl
      have e2 : (wrap64 (128 + Int.tmod (n : Int) 128)) % 256 = 128 + (n : Int) % 128 := by
        rw [Int.tmod_eq_emod_of_nonneg (by omega), w64 (by omega) (by omega)]; omega
      rw [e1, e2]
      have := ih (n / 128) (by omega) (acc ++ [128 + (n : Int) % 128]) (by omega) (by simp only [List.length_append, List.length_cons, List.length_nil]; omega)
      simpa only [List.append_assoc, List.cons_append, List.nil_append] using this
theorem spec_Var_ev (n : Int) : Ev (fun k => spec_Var.f k n) (varS n) := by
  unfold spec_Var.f varS
  simp only [spec_l1In_eq, Option.bind_some, decide_eq_true_eq]
  by_cases h : 0 ≤ n ∧ n ≤ 562949953421311
  · rw [if_pos h]
    simp only [if_pos h]
    obtain ⟨m, rfl⟩ := Int.eq_ofNat_of_zero_le h.1
    have hl := varB_len 7 m (by omega)
    have := spec_Var_l0 m [] (by omega) (by simp; omega)
    simpa only [List.nil_append, Int.toNat_natCast] using this
  · rw [if_neg h]
    simp only [if_neg h]
    exact Ev.now _

/-! spec_l1Once -/
theorem once_ok (b : List Int) (hb : b.length ≤ 1048576) (i h : Int) (hi : 0 ≤ i ∧ i ≤ 1048576) (n : Int) : ∃ x i' h', spec_l1Once.f b i h n = some (x, i', h') ∧ (0 ≤ i' ∧ i' ≤ 1048576) := by
  obtain ⟨x, i1, h1, e1, _, hi1⟩ := below_ok b hb i h hi n
  unfold spec_l1Once.f
  rw [e1]
  exact ⟨_, _, _, rfl, hi1⟩

/-! spec_l1Spoil -/
theorem ext_size (a : ByteArray) (i j : Nat) : (a.extract i j).size ≤ a.size := by rw [ByteArray.size_extract]; omega
theorem spoil_ok (b : List Int) (hb : b.length ≤ 1048576) (i h : Int) (hi : 0 ≤ i ∧ i ≤ 1048576) (a : ByteArray) (ha : a.size ≤ 1000000) : ∃ s i' h', Ev (fun k => spec_l1Spoil.f k b i h a) (s, i', h') ∧ s.size ≤ 2000 + 2 * a.size ∧ (0 ≤ i' ∧ i' ≤ 1048576) := by
  by_cases c0 : (a.size : Int) = 0
  · obtain ⟨s, i', h', g1, g2, g3⟩ := text_ok b hb i h hi 3 (by omega) (by omega)
    refine ⟨s, i', h', ?_, by omega, g3⟩
    unfold spec_l1Spoil.f
    simp only [if_pos c0]
    exact Ev.bind g1 (Ev.now _)
  · obtain ⟨x1, i1, h1, f1, hx1, hi1⟩ := below_ok b hb i h hi (a.size : Int)
    obtain ⟨x2, i2, h2, f2, _, hi2⟩ := below_ok b hb i1 h1 hi1 4
    have hlt := hx1.2.1 (by omega)
    have p0 := hx1.1
    have p1 : x1 ≤ (a.size : Int) := by omega
    have e1 : wrap64 (x1 + 1) = x1 + 1 := w64 (by omega) (by omega)
    have p2 : 0 ≤ x1 + 1 := by omega
    have p3 : x1 + 1 ≤ (a.size : Int) := by omega
    have s1 := ext_size a 0 x1.toNat
    have s2 := ext_size a (x1 + 1).toNat a.size
    have s3 := ext_size a x1.toNat a.size
    suffices key : ∃ s i' h', spec_l1Spoil.f 0 b i h a = some (s, i', h') ∧ (∀ k, spec_l1Spoil.f k b i h a = some (s, i', h')) ∧ s.size ≤ 2000 + 2 * a.size ∧ (0 ≤ i' ∧ i' ≤ 1048576) by
      obtain ⟨s, i', h', _, k1, k2, k3⟩ := key
      exact ⟨s, i', h', Ev.congr' (Ev.now _) k1, k2, k3⟩
    suffices key : ∃ s i' h', (∀ k, spec_l1Spoil.f k b i h a = some (s, i', h')) ∧ s.size ≤ 2000 + 2 * a.size ∧ (0 ≤ i' ∧ i' ≤ 1048576) by
      obtain ⟨s, i', h', k1, k2, k3⟩ := key
      exact ⟨s, i', h', k1 0, k1, k2, k3⟩
    by_cases d0 : x2 = 0
    · have q1 : (a.extract 0 x1.toNat).size + (a.extract (x1 + 1).toNat a.size).size ≤ 9223372036854775807 := by omega
      exact ⟨_, i2, h2, fun k => by unfold spec_l1Spoil.f; rw [if_neg c0, f1, Option.bind_some, f2, Option.bind_some, if_pos d0, if_pos p0, if_pos p1, e1, if_pos p2, if_pos p3, if_pos q1], by simp only [ByteArray.size_append]; omega, hi2⟩
    · by_cases d1 : x2 = 1
      · obtain ⟨x3, i3, h3, f3, _, hi3⟩ := byte_ok b hb i2 h2 hi2
        have z : (strOfNums [x3 % 256]).size = 1 := by rw [strOfNums_size]; rfl
        have q1 : (a.extract 0 x1.toNat).size + (strOfNums [x3 % 256]).size ≤ 9223372036854775807 := by omega
        have q2 : ((a.extract 0 x1.toNat) ++ (strOfNums [x3 % 256])).size + (a.extract x1.toNat a.size).size ≤ 9223372036854775807 := by simp only [ByteArray.size_append]; omega
        exact ⟨_, i3, h3, fun k => by unfold spec_l1Spoil.f; rw [if_neg c0, f1, Option.bind_some, f2, Option.bind_some, if_neg d0, if_pos d1, if_pos p0, if_pos p1, f3, Option.bind_some, Option.bind_some, if_pos q1, if_pos q2], by simp only [ByteArray.size_append, z]; omega, hi3⟩
      · by_cases d2 : x2 = 2
        · exact ⟨_, i2, h2, fun k => by unfold spec_l1Spoil.f; rw [if_neg c0, f1, Option.bind_some, f2, Option.bind_some, if_neg d0, if_neg d1, if_pos d2, if_pos p0, if_pos p1], by dsimp only; omega, hi2⟩
        · obtain ⟨x3, i3, h3, f3, _, hi3⟩ := below_ok b hb i2 h2 hi2 255
          have z : ∀ c : Int, (strOfNums [c]).size = 1 := fun c => by rw [strOfNums_size]; rfl
          have q1 : ∀ c : Int, (a.extract 0 x1.toNat).size + (strOfNums [c]).size ≤ 9223372036854775807 := fun c => by rw [z]; omega
          have q2 : ∀ c : Int, ((a.extract 0 x1.toNat) ++ (strOfNums [c])).size + (a.extract (x1 + 1).toNat a.size).size ≤ 9223372036854775807 := fun c => by rw [ByteArray.size_append, z]; omega
          exact ⟨_, i3, h3, fun k => by unfold spec_l1Spoil.f; rw [if_neg c0, f1, Option.bind_some, f2, Option.bind_some, if_neg d0, if_neg d1, if_neg d2, if_pos p0, if_pos p1, if_pos hlt, f3, Option.bind_some, Option.bind_some, if_pos (q1 _), e1, if_pos p2, if_pos p3, if_pos (q2 _)], by simp only [ByteArray.size_append, z]; omega, hi3⟩

/-! spec_DrawReadVar -/
theorem drawReadVar_ok (c : List Int) (hc : c.length ≤ 1048576) : ∃ s, Ev (fun k => spec_DrawReadVar.f k c) s ∧ s.size ≤ 10000 := by
  obtain ⟨h, a⟩ := new_ok c hc
  obtain ⟨x, i1, h1, f1, hx, hi1⟩ := num_ok c hc 0 h (by omega)
  obtain ⟨t, i2, h2, f2, ht, hi2⟩ := text_ok c hc i1 h1 hi1 4 (by omega) (by omega)
  obtain ⟨o, i3, h3, f3, hi3⟩ := once_ok c hc i2 h2 hi2 4
  have hv := varS_size x
  have hsz : (varS x).size + t.size ≤ 9223372036854775807 := by omega
  have h2' : (varS x ++ t).size ≤ 2000 := by rw [ByteArray.size_append]; omega
  obtain ⟨s, i4, h4, f4, hs, _⟩ := spoil_ok c hc i3 h3 hi3 (varS x ++ t) (by omega)
  cases o with
  | true =>
    refine ⟨s, ?_, by omega⟩
    unfold spec_DrawReadVar.f
    refine Ev.bind a ?_
    simp only [f1, Option.bind_some]
    refine Ev.bind (spec_Var_ev x) (Ev.bind f2 ?_)
    simp only [if_pos hsz, f3, Option.bind_some, if_true]
    exact Ev.bind f4 (Ev.now _)
  | false =>
    refine ⟨varS x ++ t, ?_, by omega⟩
    unfold spec_DrawReadVar.f
    refine Ev.bind a ?_
    simp only [f1, Option.bind_some]
    refine Ev.bind (spec_Var_ev x) (Ev.bind f2 ?_)
    simp only [if_pos hsz, f3, Option.bind_some, Bool.false_eq_true, if_false]
    exact Ev.now _

-- imports: DN NV
theorem fixB_val (s : ByteArray) (w : Nat) : ∀ (n i : Nat) (a : Int), n < 256 ^ w → (∀ j : Nat, j < w → bt s ((i + j : Nat) : Int) = (fixB w n).getD j 0) → valB s w i a = a * 256 ^ w + n := by
  induction w with
  | zero => intro n i a hn _; have : n = 0 := by simpa using hn
            subst this; simp [valB]
  | succ w ih =>
    intro n i a hn hb
    have key : ∀ (w : Nat) (n i : Nat) (a : Int), (∀ j : Nat, j < w + 1 → bt s ((i + j : Nat) : Int) = (fixB (w + 1) n).getD j 0) → valB s (w + 1) i a = valB s w i a * 256 + bt s ((i + w : Nat) : Int) := by
      intro w
      induction w with
      | zero => intro n i a _; simp [valB]
      | succ w ihw =>
        intro n i a hb
        have h1 : valB s (w + 1 + 1) i a = valB s (w + 1) (i + 1) (a * 256 + bt s (i : Int)) := rfl
        have h2 : ∀ (w i : Nat) (a : Int), valB s (w + 1) i a = valB s w i a * 256 + bt s ((i + w : Nat) : Int) := by
          intro w
          induction w with
          | zero => intro i a; simp [valB]
          | succ w ihh => intro i a; show valB s (w + 1) (i + 1) (a * 256 + bt s (i : Int)) = valB s w (i + 1) (a * 256 + bt s (i : Int)) * 256 + _; rw [ihh (i + 1), show i + 1 + w = i + (w + 1) by omega]
        exact h2 (w + 1) i a
    rw [key w n i a hb]
    have hlen := fixB_len w (n / 256)
    have hlast : bt s ((i + w : Nat) : Int) = (n : Int) % 256 := by
      rw [hb w (by omega)]
      simp only [fixB, List.getD_eq_getElem?_getD]
      rw [List.getElem?_append_right (by omega), hlen, Nat.sub_self]; rfl
    have := ih (n / 256) i a (by rw [Nat.pow_succ] at hn; omega) (fun j hj => by
      rw [hb j (by omega)]
      simp only [fixB, List.getD_eq_getElem?_getD]
      rw [List.getElem?_append_left (by omega)])
    rw [this, hlast, Int.add_mul, Int.pow_succ, Int.mul_assoc]
    omega
theorem fixed_back (n : Int) (h0 : 0 ≤ n) (h1 : n < 72057594037927936) (t : ByteArray) : fixedS n 7 = strOfNums (fixB 7 n.toNat) ∧ readFixed (fixedS n 7 ++ t) 7 = (n, true) := by
  have e : fixedS n 7 = strOfNums (fixB 7 n.toNat) := by
    unfold fixedS
    rw [if_pos ⟨⟨by omega, by omega⟩, h0, by show n.toNat / 256 ^ 7 = 0; omega⟩]; rfl
  refine ⟨e, ?_⟩
  have hsz : (strOfNums (fixB 7 n.toNat)).size = 7 := by rw [strOfNums_size, fixB_len]
  have hv := fixB_val (strOfNums (fixB 7 n.toNat) ++ t) 7 n.toNat 0 0 (by show n.toNat < 256 ^ 7; omega) (fun j hj => by
    rw [Nat.zero_add, ← rd_bytesOf, bytesOf_append, bytesOf_strOf (fixB_range 7 n.toNat)]
    unfold rd
    rw [Int.toNat_natCast, List.getD_eq_getElem?_getD, List.getD_eq_getElem?_getD, List.getElem?_append_left (by rw [fixB_len]; exact hj)])
  unfold readFixed
  rw [e, if_pos ⟨⟨by omega, by omega⟩, by rw [ByteArray.size_append, hsz]; omega⟩]
  show (valB _ 7 0 0, true) = _
  rw [hv]
  exact Prod.ext (by simp only [Int.zero_mul]; omega) rfl
theorem fixed_none (n : Int) (h : ¬ (0 ≤ n ∧ n < 72057594037927936)) : fixedS n 7 = ⟨#[]⟩ := by
  unfold fixedS
  rw [if_neg]
  intro hh
  have h2 : n.toNat / 256 ^ (7 : Int).toNat = 0 := hh.2.2
  have h3 : n.toNat / 72057594037927936 = 0 := h2
  omega
theorem hex_len : ∀ l : List Int, (hexL l).length = 2 * l.length
  | [] => rfl
  | b :: l => by simp only [hexL, List.length_cons, hex_len l]; omega
theorem hexD_u8 (x : Int) : 0 ≤ hexD x ∧ hexD x ≤ 255 := bt_u8 _ _
theorem hexL_range : ∀ (l : List Int), ∀ x ∈ hexL l, 0 ≤ x ∧ x ≤ 255
  | [], x, h => by simp [hexL] at h
  | b :: l, x, h => by
    simp only [hexL, List.mem_cons] at h
    rcases h with rfl | rfl | h
    · exact hexD_u8 _
    · exact hexD_u8 _
    · exact hexL_range l x h
theorem unhex_go (s : ByteArray) (l : List Int) (hl : ∀ x ∈ l, 0 ≤ x ∧ x ≤ 255) : ∀ (i : Nat) (acc : List Int), (bytesOf s).drop i = hexL l → i + 2 * l.length = s.size → unhexGo s l.length i acc = (strOfNums (acc ++ l), true) := by
  induction l with
  | nil => intro i acc _ _; simp [unhexGo]
  | cons b l ih =>
    intro i acc hd hi
    simp only [List.length_cons] at hi
    have hb := hl b (by simp)
    have h1 := drop_bytes s i (by omega)
    have h2 := drop_bytes s (i + 1) (by omega)
    rw [h1, h2] at hd
    simp only [hexL, List.cons.injEq] at hd
    obtain ⟨q, hq⟩ := Int.eq_ofNat_of_zero_le (show 0 ≤ b / 16 by omega)
    obtain ⟨r, hr⟩ := Int.eq_ofNat_of_zero_le (show 0 ≤ b % 16 by omega)
    have v1 : hexV (bt s (i : Int)) = b / 16 := by rw [hd.1, hq]; exact hexV_hexD q (by omega)
    have v2 : hexV (bt s ((i + 1 : Nat) : Int)) = b % 16 := by rw [hd.2.1, hr]; exact hexV_hexD r (by omega)
    simp only [List.length_cons, unhexGo]
    rw [v1, v2, if_neg (by omega), if_neg (by omega), ih (fun x hx => hl x (by simp [hx])) (i + 2) _ hd.2.2 (by omega), show (16 * (b / 16) + b % 16) % 256 = b by omega]
    simp
theorem unhex_hex (s : ByteArray) : unhexT (hexS s) = (s, true) := by
  have hb : bytesOf (hexS s) = hexL (bytesOf s) := bytesOf_strOf (hexL_range _)
  have hsz : (hexS s).size = 2 * (bytesOf s).length := by rw [← bytesOf_len, hb, hex_len]
  unfold unhexT
  rw [if_neg (by omega), show (hexS s).size / 2 = (bytesOf s).length by omega, unhex_go (hexS s) (bytesOf s) (bytesOf_range s) 0 [] (by rw [List.drop_zero, hb]) (by omega), List.nil_append, strOf_bytesOf]
theorem toList_nil_iff (s : ByteArray) : s.toList = ([] : List UInt8) ↔ s.size = 0 := by
  rw [toList_data]
  constructor
  · intro h; show s.data.size = 0; rw [← Array.length_toList, h]; rfl
  · intro h; exact List.length_eq_zero_iff.1 (by rw [Array.length_toList]; exact h)
theorem num_j2 (c : List Int) (tail : ByteArray) (ht : tail.size ≤ 1000) (r : ByteArray) (hr : Ev (fun k => spec_DrawReadVar.f k c) r) (hrs : r.size ≤ 10000) : Ev (fun k => laws_FnNumbers.j2 k c tail false) true := by
  refine Ev.step (fun k => by rw [laws_FnNumbers.j2]) ?_
  simp only [Bool.false_eq_true, if_false]
  have hhs : (hexS tail).size ≤ 1048576 := by
    show (strOfNums (hexL (bytesOf tail))).size ≤ _
    rw [strOfNums_size, hex_len, bytesOf_len]; omega
  refine Ev.bind (impl_Hex_ev tail (by omega)) (Ev.bind (impl_Unhex_ev _ hhs) (Ev.bind hr (Ev.bind (impl_ReadVar_ev r (by omega)) ?_)))
  rw [unhex_hex]
  simp only [if_true]
  have hrg := readVar_range r
  by_cases c0 : (readVar r).2 = 0
  · simp only [if_pos c0]; exact Ev.now _
  · have c1 : (readVar r).2 > 0 := by omega
    have hbk := readVar_back r c0
    simp only [if_neg c0, if_pos c1]
    refine Ev.bind hr ?_
    simp only [if_pos hrg.2.2]
    refine Ev.bind hr ?_
    simp only [if_pos hrg.2.2]
    refine Ev.bind (impl_Var_ev _) (Ev.bind hr ?_)
    simp only [if_pos hrg.2.1, if_pos hrg.2.2]
    rw [hbk.2.1]
    exact evSome (by simp)
theorem num_j1 (c : List Int) (n : Int) (hn : -9223372036854775808 ≤ n ∧ n ≤ 9223372036854775807) (tail : ByteArray) (ht : tail.size ≤ 1000) (r : ByteArray) (hr : Ev (fun k => spec_DrawReadVar.f k c) r) (hrs : r.size ≤ 10000) : Ev (fun k => laws_FnNumbers.j1 k c n tail false) true := by
  have hj := num_j2 c tail ht r hr hrs
  refine Ev.step (fun k => by rw [laws_FnNumbers.j1]) ?_
  simp only [Bool.false_eq_true, if_false, impl_Dec_eq n hn.1 hn.2, Option.bind_some]
  have hsz : (decS n).size ≤ 1048576 := by
    rw [← bytesOf_len, bytes_decS]
    have := digL_len 18 n.natAbs (by omega)
    unfold decL
    split
    · simp only [List.length_cons]; omega
    · rw [show n.toNat = n.natAbs by omega]; omega
  refine Ev.bind (impl_ReadDec_ev _ hsz) ?_
  by_cases c1 : n > -1000000000
  · by_cases c2 : n < 1000000000
    · rw [readDec_of n (by omega) c2]
      simp only [if_pos c1, decide_eq_true c2, bne_self_eq_false, Bool.false_eq_true, if_false, if_true]
      exact hj
    · have h0 : readDec (decS n) = (0, false) := by
        rcases readDec_cases (decS n) with ⟨m, h⟩ | h
        · have hy := readDec_yes h
          have := decS_inj hy.1
          omega
        · exact h
      rw [h0]
      simp only [if_pos c1, decide_eq_false c2, bne_self_eq_false, Bool.false_eq_true, if_false]
      exact hj
  · have h0 : readDec (decS n) = (0, false) := by
      rcases readDec_cases (decS n) with ⟨m, h⟩ | h
      · have hy := readDec_yes h
        have := decS_inj hy.1
        omega
      · exact h
    rw [h0]
    simp only [if_neg c1, bne_self_eq_false, Bool.false_eq_true, if_false]
    exact hj
theorem num_j0 (c : List Int) (n : Int) (hn : -9223372036854775808 ≤ n ∧ n ≤ 9223372036854775807) (tail : ByteArray) (ht : tail.size ≤ 1000) (r : ByteArray) (hr : Ev (fun k => spec_DrawReadVar.f k c) r) (hrs : r.size ≤ 10000) : Ev (fun k => laws_FnNumbers.j0 k c n tail false) true := by
  have hj := num_j1 c n hn tail ht r hr hrs
  refine Ev.step (fun k => by rw [laws_FnNumbers.j0]) ?_
  simp only [Bool.false_eq_true, if_false]
  refine Ev.bind (impl_Fixed_ev n 7 hn.1 hn.2) ?_
  by_cases h : 0 ≤ n ∧ n < 72057594037927936
  · obtain ⟨f1, f2⟩ := fixed_back n h.1 h.2 tail
    have hsz : (fixedS n 7).size = 7 := by rw [f1, strOfNums_size, fixB_len]
    have c1 : (fixedS n 7).size + tail.size ≤ 9223372036854775807 := by omega
    have c2 : ¬ (fixedS n 7).toList = ([] : List UInt8) := by rw [toList_nil_iff]; omega
    have c3 : ((fixedS n 7).size : Int) = 7 := by omega
    have c4 : ¬ n < 0 := by omega
    have e1 : ((fixedS n 7).toList == ([] : List UInt8)) = false := beq_eq_false_iff_ne.2 c2
    have e2 : decide (n ≥ 72057594037927936) = false := decide_eq_false (by omega)
    simp only [if_pos c1]
    refine Ev.bind (impl_ReadFixed_ev _ 7) ?_
    rw [f2]
    simp only [if_neg c2, if_true, if_pos c3, if_neg c4, e1, e2, bne_self_eq_false]
    exact hj
  · have f1 := fixed_none n h
    rw [f1]
    have c1 : (⟨#[]⟩ : ByteArray).size + tail.size ≤ 9223372036854775807 := by rw [show (⟨#[]⟩ : ByteArray).size = 0 from rfl]; omega
    have c2 : (⟨#[]⟩ : ByteArray).toList = ([] : List UInt8) := by rw [toList_nil_iff]; rfl
    simp only [if_pos c1]
    refine Ev.bind (impl_ReadFixed_ev _ 7) ?_
    simp only [if_pos c2, c2]
    by_cases c4 : n < 0
    · simp only [if_pos c4]; exact hj
    · have e2 : decide (n ≥ 72057594037927936) = true := decide_eq_true (by omega)
      simp only [if_neg c4, e2]
      exact hj
theorem law : laws_FnNumbers.Pure := by
  intro c hc1 hc2 _
  refine Ev.rounds ?_
  unfold laws_FnNumbers.f
  simp only [big_eq, Option.bind_some, decide_eq_true_eq]
  by_cases hbig : (c.length : Int) > 1048576
  · simp only [if_pos hbig]; exact Ev.now _
  · simp only [if_neg hbig]
    obtain ⟨n, hd, hn⟩ := drawVar_ok c (by omega)
    obtain ⟨tail, ht, hts⟩ := drawHex_ok c (by omega)
    obtain ⟨r, hr, hrs⟩ := drawReadVar_ok c (by omega)
    have hj := num_j0 c n hn tail hts r hr hrs
    have hv := varS_size n
    have c1 : (varS n).size + tail.size ≤ 9223372036854775807 := by omega
    refine Ev.bind hd (Ev.bind ht (Ev.bind (impl_Var_ev n) ?_))
    simp only [if_pos c1]
    refine Ev.bind (impl_ReadVar_ev _ (by rw [ByteArray.size_append]; omega)) ?_
    by_cases c2 : n ≥ 0
    · simp only [if_pos c2]
      by_cases c3 : n ≤ 562949953421311
      · have hp : ¬ (varS n).toList = ([] : List UInt8) := by
          intro h
          have h2 : varS n = ⟨#[]⟩ := ba_ext (by rw [h, toList_data])
          exact (varS_none n).1 h2 ⟨c2, c3⟩
        have e1 : ((varS n).toList != ([] : List UInt8)) = true := bne_iff_ne.2 hp
        rw [readVar_fwd n c2 c3 tail]
        simp only [e1, decide_eq_true c3, bne_self_eq_false, Bool.false_eq_true, if_false, if_neg hp, if_true]
        exact hj
      · have hp : varS n = ⟨#[]⟩ := (varS_none n).2 (fun h => c3 h.2)
        have hq : (varS n).toList = ([] : List UInt8) := by rw [hp, toList_data]
        simp only [hq, decide_eq_false c3, bne_self_eq_false, Bool.false_eq_true, if_false, if_true]
        exact hj
    · have hp : varS n = ⟨#[]⟩ := (varS_none n).2 (fun h => c2 h.1)
      have hq : (varS n).toList = ([] : List UInt8) := by rw [hp, toList_data]
      simp only [if_neg c2, hq, bne_self_eq_false, Bool.false_eq_true, if_false, if_true]
      exact hj

end Go.Proofs.YtbdjconojnjgdaaDoor.PureFnNumbers
namespace Go.Proofs.YtbdjconojnjgdaaDoor.Pure
open Go.RowKit Go.Proofs.YtbdjconojnjgdaaDoor.HFnNumbers
theorem FnNumbers : laws_FnNumbers.Pure := Go.Proofs.YtbdjconojnjgdaaDoor.PureFnNumbers.law
end Go.Proofs.YtbdjconojnjgdaaDoor.Pure
