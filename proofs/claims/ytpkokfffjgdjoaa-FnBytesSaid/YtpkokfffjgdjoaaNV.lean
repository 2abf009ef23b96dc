/- Plain facts about the bytes of numbers: what reads them reads just what was written. Conditions: those that each lemma names. -/
import Derived.Test.YtpkokfffjgdjoaaM
import Derived.Test.YtpkokfffjgdjoaaMB
namespace Go.Proofs.Ytpkokfffjgdjoaa.M
open Go.RowKit Go.Proofs.YtpkokfffjgdjoaaW.PrintWords Go.Proofs.YtpkokfffjgdjoaaW.PrintMore
set_option linter.unusedVariables false
set_option linter.unusedSimpArgs false

theorem app_assoc (a b c : ByteArray) : a ++ b ++ c = a ++ (b ++ c) := ByteArray.append_assoc
theorem nilL (s : ByteArray) : (⟨#[]⟩ : ByteArray) ++ s = s := by
  apply ba_ext; rw [toList_data, toList_data, ByteArray.data_append]; simp
theorem nilR (s : ByteArray) : s ++ (⟨#[]⟩ : ByteArray) = s := by
  apply ba_ext; rw [toList_data, toList_data, ByteArray.data_append]; simp
theorem decTake (s : ByteArray) (i : Nat) (h : i < s.size) : decV ((bytesOf s).take (i + 1)) = decV ((bytesOf s).take i) + bt s i % 128 * 128 ^ i := by
  rw [take_bytes_succ s i h, decV_snoc, List.length_take, bytesOf_len, Nat.min_eq_left (by omega)]
/-- What is read was written: the bytes read are those of the number. -/
theorem rvGo_back (s : ByteArray) (d : Nat) : ∀ i : Nat, i + d = min s.size 7 → (∀ x ∈ (bytesOf s).take i, 128 ≤ x) → ∀ v k : Int, rvGo s d i (decV ((bytesOf s).take i)) = (v, k) → k ≠ 0 →
    ∃ K : Nat, k = (K : Int) ∧ 1 ≤ K ∧ K ≤ 7 ∧ K ≤ s.size ∧ goodV ((bytesOf s).take K) ∧ v = decV ((bytesOf s).take K) := by
  induction d with
  | zero => intro i _ _ v k h hk; simp only [rvGo, Prod.mk.injEq] at h; omega
  | succ d ih =>
    intro i hi hx v k h hk
    have hb := bt_u8 s (i : Int)
    have htk := take_bytes_succ s i (by omega)
    have hlen : ((bytesOf s).take i).length = i := by simp [bytesOf_len]; omega
    have hrange : ∀ x ∈ (bytesOf s).take i, 128 ≤ x ∧ x ≤ 255 := fun x hm => ⟨hx x hm, (bytesOf_range s x (List.mem_of_mem_take hm)).2⟩
    simp only [rvGo] at h
    by_cases hlow : bt s (i : Int) < 128
    · rw [if_pos hlow] at h
      by_cases hz : 0 < i ∧ bt s (i : Int) = 0
      · rw [if_pos hz, Prod.mk.injEq] at h; omega
      · rw [if_neg hz, Prod.mk.injEq] at h
        refine ⟨i + 1, by omega, by omega, by omega, by omega, ?_, ?_⟩
        · rw [htk]
          refine goodV_snoc _ hrange _ hb.1 hlow ?_
          by_cases h0 : i = 0
          · left; subst h0; rfl
          · right; omega
        · rw [decTake s i (by omega)]; exact h.1.symm
    · rw [if_neg hlow, ← decTake s i (by omega)] at h
      refine ih (i + 1) (by omega) ?_ v k h hk
      intro x hm
      rw [htk] at hm
      simp only [List.mem_append, List.mem_singleton] at hm
      rcases hm with hm | rfl
      · exact hx x hm
      · omega
theorem varS_dec (l : List Int) (hg : goodV l) (h7 : l.length ≤ 7) : varS (decV l) = strOfNums l := by
  unfold varS
  rw [if_pos ⟨decV_nonneg l, decV_max l h7⟩, varB_decV l hg]
theorem readVar_back (s : ByteArray) (h : (readVar s).2 ≠ 0) : (0 ≤ (readVar s).1 ∧ (readVar s).1 ≤ 562949953421311) ∧ s.extract 0 (readVar s).2.toNat = varS (readVar s).1 ∧ ((varS (readVar s).1).size : Int) = (readVar s).2 := by
  obtain ⟨K, h1, h2, h3, h4, h5, h6⟩ := rvGo_back s (min s.size 7) 0 (by omega) (by simp) (readVar s).1 (readVar s).2 (by unfold readVar; simp [decV]) h
  have hl : ((bytesOf s).take K).length ≤ 7 := by simp; omega
  have hv := varS_dec _ h5 hl
  refine ⟨?_, ?_, ?_⟩
  · rw [h6]; exact ⟨decV_nonneg _, decV_max _ hl⟩
  · rw [h6, hv, h1, Int.toNat_natCast]
    apply bytesOf_inj
    rw [bytesOf_extract, List.drop_zero, bytesOf_strOf (fun x hx => bytesOf_range s x (List.mem_of_mem_take hx))]
  · rw [h6, hv, strOfNums_size, h1]
    simp [bytesOf_len]; omega
/-- What was written is read. -/
theorem rvGo_fwd (s : ByteArray) (K : Nat) (hK : K ≤ 7) (hs : K ≤ s.size) (hg : goodV ((bytesOf s).take K)) (d : Nat) : ∀ i : Nat, i + d = min s.size 7 → i < K → rvGo s d i (decV ((bytesOf s).take i)) = (decV ((bytesOf s).take K), (K : Int)) := by
  induction d with
  | zero => intro i h1 h2; omega
  | succ d ih =>
    intro i h1 h2
    have hb := bt_u8 s (i : Int)
    have e := List.take_append_drop i ((bytesOf s).take K)
    have hd : ((bytesOf s).take K).drop i = bt s (i : Int) :: ((bytesOf s).take K).drop (i + 1) := by
      have h := drop_bytes s i (by omega)
      rw [List.drop_take, List.drop_take, h, show K - i = (K - (i + 1)) + 1 by omega, List.take_succ_cons]
    rw [hd] at e
    simp only [rvGo]
    rw [← decTake s i (by omega)]
    by_cases c : i + 1 = K
    · subst c
      rw [take_bytes_succ s i (by omega)] at hg
      have hl := goodV_last _ _ hg
      rw [if_pos hl.1, if_neg (by
        rintro ⟨h0, hz⟩
        rcases hl.2 with h | h
        · have := congrArg List.length h
          rw [List.length_take, bytesOf_len, List.length_nil] at this; omega
        · exact h hz)]
      rfl
    · have hne : ((bytesOf s).take K).drop (i + 1) ≠ [] := by
        intro h
        have := congrArg List.length h
        simp [bytesOf_len] at this; omega
      have : ¬ bt s (i : Int) < 128 := fun hlt => not_goodV_low _ _ _ hne hlt (by rw [e]; exact hg)
      rw [if_neg this]
      exact ih (i + 1) (by omega) (by omega)
theorem readVar_fwd (n : Int) (h0 : 0 ≤ n) (h1 : n ≤ 562949953421311) (t : ByteArray) : readVar (varS n ++ t) = (n, ((varS n).size : Int)) := by
  have hv : varS n = strOfNums (varB n.toNat) := by unfold varS; rw [if_pos ⟨h0, h1⟩]
  have hsz : (varS n).size = (varB n.toNat).length := by rw [hv, strOfNums_size]
  have hl := varB_len 6 n.toNat (by omega)
  have hp := varB_pos n.toNat
  have htk : (bytesOf (varS n ++ t)).take (varB n.toNat).length = varB n.toNat := by
    rw [bytesOf_append, hv, bytesOf_strOf (varB_range _), List.take_left]
  have hss : (varB n.toNat).length ≤ (varS n ++ t).size := by rw [ByteArray.size_append, hsz]; omega
  have := rvGo_fwd (varS n ++ t) (varB n.toNat).length (by omega) hss (by rw [htk]; exact goodV_varB _) (min (varS n ++ t).size 7) 0 (by omega) hp
  rw [htk, decV_varB] at this
  simp only [List.take_zero, decV] at this
  unfold readVar
  rw [this, hsz, Int.toNat_of_nonneg h0]
theorem varS_none (n : Int) : varS n = ⟨#[]⟩ ↔ ¬ (0 ≤ n ∧ n ≤ 562949953421311) := by
  constructor
  · intro h hn
    have hv : varS n = strOfNums (varB n.toNat) := by unfold varS; rw [if_pos hn]
    have := congrArg ByteArray.size h
    rw [hv, strOfNums_size] at this
    have hp := varB_pos n.toNat
    have e : (⟨#[]⟩ : ByteArray).size = 0 := rfl
    omega
  · intro h; unfold varS; rw [if_neg h]
theorem tail_app (s : ByteArray) (a k : Nat) (ha : a + k ≤ s.size) : s.extract a s.size = (s.extract a s.size).extract 0 k ++ s.extract (a + k) s.size := by
  apply bytesOf_inj
  have e : ∀ i : Nat, bytesOf (s.extract i s.size) = (bytesOf s).drop i := fun i => by rw [bytesOf_extract, ← bytesOf_len, List.take_length]
  rw [bytesOf_append, e, e, bytesOf_extract, e, List.drop_zero, ← List.drop_drop, List.take_append_drop]
theorem app_tail (a b : ByteArray) : (a ++ b).extract a.size (a ++ b).size = b := by
  apply bytesOf_inj
  rw [bytesOf_extract, ← bytesOf_len (a ++ b), List.take_length, bytesOf_append, ← bytesOf_len a, List.drop_left]
end Go.Proofs.Ytpkokfffjgdjoaa.M
