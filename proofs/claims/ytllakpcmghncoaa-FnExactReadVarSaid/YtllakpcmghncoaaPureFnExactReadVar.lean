/- For every text, the program's ReadVar and the reference's ReadVar give the same number and the same length. Condition: none but the model's own bound on a text's size. -/
import Derived.Test.YtllakpcmghncoaaPFnExactReadVarx1
import Derived.Test.YtllakpcmghncoaaM
namespace Go.Proofs.Ytllakpcmghncoaa.PureFnExactReadVar
open Go.RowKit Go.Proofs.Ytllakpcmghncoaa.PFnExactReadVar Go.Proofs.YtllakpcmghncoaaW.PrintWords Go.Proofs.YtllakpcmghncoaaW.PrintLast Go.Proofs.YtllakpcmghncoaaW.PrintMore Go.Proofs.Ytllakpcmghncoaa.M
set_option linter.unusedVariables false
set_option linter.unusedSimpArgs false

/-! spec_l1In -/
theorem spec_l1In_eq (a b c : Int) : spec_l1In.f a b c = some (decide (b ≤ a ∧ a ≤ c)) := by
  unfold spec_l1In.f
  by_cases h : b ≤ a
  · rw [if_pos h]; simp [h]
  · rw [if_neg h]; simp [h]

/-! spec_Var -/
theorem spec_Var_l0 : ∀ (n : Nat) (acc : List Int), n < 9223372036854775808 → acc.length + (varB n).length ≤ 140737488355328 → Ev (fun k => spec_Var.l0 k n acc) (strOfNums (acc ++ varB n)) := by
  intro n
  induction n using Nat.strongRecOn with
  | _ n ih =>
    intro acc hn hl
    by_cases h : n < 128
    · rw [varB_lt h] at hl ⊢
      simp only [List.length_cons, List.length_nil] at hl
      refine Ev.step (fun k => by simp only [spec_Var.l0]; rw [if_neg (by omega), if_pos (by omega)]) ?_
      refine evSome ?_
      rw [Int.emod_eq_of_lt (by omega) (by omega)]
    · rw [varB_ge h] at hl ⊢
      simp only [List.length_cons] at hl
      refine Ev.step (fun k => by simp only [spec_Var.l0]; rw [if_pos (by omega), if_pos (by omega)]) ?_
      have e1 : wrap64 (Int.tdiv (n : Int) 128) = ((n / 128 : Nat) : Int) := by
        rw [Int.tdiv_eq_ediv_of_nonneg (by omega), w64 (by omega) (by omega)]; rfl
      have e2 : (wrap64 (128 + Int.tmod (n : Int) 128)) % 256 = 128 + (n : Int) % 128 := by
        rw [Int.tmod_eq_emod_of_nonneg (by omega), w64 (by omega) (by omega)]; omega
      rw [e1, e2]
      have := ih (n / 128) (by omega) (acc ++ [128 + (n : Int) % 128]) (by omega) (by simp only [List.length_append, List.length_cons, List.length_nil]; omega)
      simpa only [List.append_assoc, List.cons_append, List.nil_append] using this
theorem spec_Var_ev (n : Int) : Ev (fun k => spec_Var.f k n) (varS n) := by
  unfold spec_Var.f varS
  simp only [spec_l1In_eq, Option.bind_some, decide_eq_true_eq]
  by_cases h : 0 ≤ n ∧ n ≤ 562949953421311
  · rw [if_pos h]
    simp only [if_pos h]
    obtain ⟨m, rfl⟩ := Int.eq_ofNat_of_zero_le h.1
    have hl := varB_len 7 m (by omega)
    have := spec_Var_l0 m [] (by omega) (by simp; omega)
    simpa only [List.nil_append, Int.toNat_natCast] using this
  · rw [if_neg h]
    simp only [if_neg h]
    exact Ev.now _

/-! spec_ReadVar -/
theorem take_all_eq (s : ByteArray) (K i : Nat) (hi : i < K) (hK : K ≤ s.size) : ((bytesOf s).take K).drop i = bt s (i : Int) :: ((bytesOf s).take K).drop (i + 1) := by
  have h := drop_bytes s i (by omega)
  rw [List.drop_take, List.drop_take, h, show K - i = (K - (i + 1)) + 1 by omega, List.take_succ_cons]
theorem spec_ReadVar_l1 (s : ByteArray) (K : Nat) (hK : K ≤ 7) (hs : K ≤ s.size) (r : Int × Int)
    (h : Ev (fun k => spec_ReadVar.l1 k s K (decV ((bytesOf s).take K)) (-1)) r) :
    ∀ i : Nat, i ≤ K → Ev (fun k => spec_ReadVar.l1 k s K (decV (((bytesOf s).take K).drop i)) ((i : Int) - 1)) r := by
  intro i
  induction i with
  | zero => intro _; simpa using h
  | succ i ih =>
    intro hi
    have hb := bt_u8 s (i : Int)
    have hd := decV_nonneg (((bytesOf s).take K).drop (i + 1))
    have hm := decV_max (((bytesOf s).take K).drop (i + 1)) (by simp; omega)
    have hi' := ih (by omega)
    rw [take_all_eq s K i (by omega) hs] at hi'
    simp only [decV] at hi'
    have e0 : ((i + 1 : Nat) : Int) - 1 = (i : Int) := by omega
    have c1 : (i : Int) ≥ 0 := by omega
    have c2 : (0 : Int) ≤ (i : Int) := by omega
    have c3 : (i : Int) < (s.size : Int) := by omega
    generalize decV (((bytesOf s).take K).drop (i + 1)) = q at *
    have e1 : wrap64 (q * 128) = q * 128 := w64 (by omega) (by omega)
    have e2 : Int.tmod (wrap64 (bt s i)) 128 = bt s i % 128 := by rw [w64 (by omega) (by omega), Int.tmod_eq_emod_of_nonneg (by omega)]
    have e3 : wrap64 (q * 128 + bt s i % 128) = bt s i % 128 + 128 * q := by rw [w64 (by omega) (by omega)]; omega
    have e4 : wrap64 ((i : Int) - 1) = (i : Int) - 1 := w64 (by omega) (by omega)
    rw [e0]
    refine Ev.step (fun k => by simp only [spec_ReadVar.l1]; rw [if_pos c1, if_pos c2, if_pos c3, e1, e2, e3, e4]) ?_
    exact hi'
/-- One try: the first K bytes. -/
theorem spec_ReadVar_try (s : ByteArray) (K : Nat) (h1 : 1 ≤ K) (hK : K ≤ 7) (hs : K ≤ s.size) (r : Int × Int)
    (hyes : goodV ((bytesOf s).take K) → (decV ((bytesOf s).take K), (K : Int)) = r)
    (hno : ¬ goodV ((bytesOf s).take K) → Ev (fun k => spec_ReadVar.l0 k s ((K + 1 : Nat) : Int)) r) :
    Ev (fun k => spec_ReadVar.l0 k s K) r := by
  have c1 : (K : Int) ≤ 7 := by omega
  have c2 : (K : Int) ≤ (s.size : Int) := by omega
  have c3 : (0 : Int) ≤ (K : Int) := by omega
  have hnil : ((bytesOf s).take K).drop K = [] := List.drop_of_length_le (by simp; omega)
  have hlen : ((bytesOf s).take K).length ≤ 7 := by simp; omega
  have hd := decV_nonneg ((bytesOf s).take K)
  have hm := decV_max ((bytesOf s).take K) hlen
  have e0 : wrap64 ((K : Int) - 1) = (K : Int) - 1 := w64 (by omega) (by omega)
  have e1 : wrap64 ((K : Int) + 1) = ((K + 1 : Nat) : Int) := by rw [w64 (by omega) (by omega)]; rfl
  refine Ev.step (fun k => by simp only [spec_ReadVar.l0]; rw [if_pos c1, decide_eq_true c2]) ?_
  refine Ev.step (fun k => by rw [spec_ReadVar.j1]) ?_
  simp only [if_true, e0]
  have := spec_ReadVar_l1 s K hK hs r ?_ K (Nat.le_refl _)
  · rw [hnil] at this; exact this
  · refine Ev.step (fun k => by simp only [spec_ReadVar.l1]; rw [if_neg (by decide)]) ?_
    refine Ev.bind (spec_Var_ev _) ?_
    simp only [if_pos c3, if_pos c2, e1, toList_eq_iff, bytesOf_extract, Int.toNat_natCast, List.drop_zero]
    have hv : varS (decV ((bytesOf s).take K)) = strOfNums (varB (decV ((bytesOf s).take K)).toNat) := by
      unfold varS; rw [if_pos ⟨hd, hm⟩]
    rw [hv, bytesOf_strOf (varB_range _)]
    by_cases hg : goodV ((bytesOf s).take K)
    · rw [varB_decV _ hg]
      simp only [if_true]
      exact evSome (hyes hg)
    · have hne : ¬ varB (decV ((bytesOf s).take K)).toNat = (bytesOf s).take K := by
        intro e; apply hg; rw [← e]; exact goodV_varB _
      simp only [if_neg hne]
      exact hno hg
theorem spec_ReadVar_end (s : ByteArray) (K : Nat) (h : 7 < K ∨ s.size < K) : Ev (fun k => spec_ReadVar.l0 k s K) (0, 0) := by
  by_cases c : (K : Int) ≤ 7
  · refine Ev.step (fun k => by simp only [spec_ReadVar.l0]; rw [if_pos c, decide_eq_false (by omega)]) ?_
    refine Ev.step (fun k => by rw [spec_ReadVar.j1]) ?_
    simp only [Bool.false_eq_true, if_false]; exact Ev.now _
  · refine Ev.step (fun k => by simp only [spec_ReadVar.l0]; rw [if_neg c]) ?_
    refine Ev.step (fun k => by rw [spec_ReadVar.j1]) ?_
    simp only [Bool.false_eq_true, if_false]; exact Ev.now _
/-- Behind a byte below 128 nothing fits. -/
theorem spec_ReadVar_low (s : ByteArray) (t : Nat) (ht : bt s (t : Int) < 128) (d : Nat) : ∀ K : Nat, t + 1 < K → K + d = min s.size 7 + 1 → Ev (fun k => spec_ReadVar.l0 k s K) (0, 0) := by
  induction d with
  | zero => intro K h1 h2; exact spec_ReadVar_end s K (by omega)
  | succ d ih =>
    intro K h1 h2
    have hng : ¬ goodV ((bytesOf s).take K) := by
      have e := List.take_append_drop t ((bytesOf s).take K)
      rw [take_all_eq s K t (by omega) (by omega)] at e
      rw [← e]
      refine not_goodV_low _ _ _ ?_ ht
      intro hn
      have := congrArg List.length hn
      simp [bytesOf_len] at this; omega
    exact spec_ReadVar_try s K (by omega) (by omega) (by omega) _ (fun hg => absurd hg hng) (fun _ => ih (K + 1) (by omega) (by omega))
theorem decV_take_succ (s : ByteArray) (i : Nat) (h : i < s.size) : decV ((bytesOf s).take (i + 1)) = decV ((bytesOf s).take i) + bt s i % 128 * 128 ^ i := by
  rw [take_bytes_succ s i h, decV_snoc, List.length_take, bytesOf_len, Nat.min_eq_left (by omega)]
theorem spec_ReadVar_l0 (s : ByteArray) (d : Nat) : ∀ i : Nat, i + d = min s.size 7 → (∀ x ∈ (bytesOf s).take i, 128 ≤ x) → Ev (fun k => spec_ReadVar.l0 k s ((i + 1 : Nat) : Int)) (rvGo s d i (decV ((bytesOf s).take i))) := by
  induction d with
  | zero => intro i hi hx; exact spec_ReadVar_end s (i + 1) (by omega)
  | succ d ih =>
    intro i hi hx
    have hb := bt_u8 s (i : Int)
    have htk := take_bytes_succ s i (by omega)
    have hlen : ((bytesOf s).take i).length = i := by simp [bytesOf_len]; omega
    have hrange : ∀ x ∈ (bytesOf s).take i, 128 ≤ x ∧ x ≤ 255 := fun x hm => ⟨hx x hm, (bytesOf_range s x (List.mem_of_mem_take hm)).2⟩
    simp only [rvGo]
    by_cases hlow : bt s (i : Int) < 128
    · rw [if_pos hlow]
      by_cases hz : 0 < i ∧ bt s (i : Int) = 0
      · rw [if_pos hz]
        refine spec_ReadVar_try s (i + 1) (by omega) (by omega) (by omega) _ (fun hg => ?_) (fun _ => ?_)
        · rw [htk] at hg
          rcases (goodV_last _ _ hg).2 with h | h
          · rw [h] at hlen; simp at hlen; omega
          · exact absurd hz.2 h
        · exact spec_ReadVar_low s i hlow d (i + 1 + 1) (by omega) (by omega)
      · rw [if_neg hz]
        refine spec_ReadVar_try s (i + 1) (by omega) (by omega) (by omega) _ (fun _ => ?_) (fun hg => ?_)
        · rw [decV_take_succ s i (by omega)]; rfl
        · refine absurd ?_ hg
          rw [htk]
          refine goodV_snoc _ hrange _ hb.1 hlow ?_
          by_cases h0 : i = 0
          · left; subst h0; rfl
          · right; omega
    · rw [if_neg hlow]
      refine spec_ReadVar_try s (i + 1) (by omega) (by omega) (by omega) _ (fun hg => ?_) (fun _ => ?_)
      · rw [htk] at hg
        exact absurd (goodV_last _ _ hg).1 hlow
      · rw [← decV_take_succ s i (by omega)]
        refine ih (i + 1) (by omega) ?_
        intro x hm
        rw [htk] at hm
        simp only [List.mem_append, List.mem_singleton] at hm
        rcases hm with hm | rfl
        · exact hx x hm
        · omega
theorem spec_ReadVar_ev (s : ByteArray) : Ev (fun k => spec_ReadVar.f k s) (readVar s) := by
  have := spec_ReadVar_l0 s (min s.size 7) 0 (by omega) (by simp)
  simpa [spec_ReadVar.f, readVar, decV] using this

/-! impl_ReadVar -/
theorem p128 (i : Nat) (h : i ≤ 7) : (128 : Int) ^ i ≤ 562949953421312 := by
  have h1 : (128 : Nat) ^ i ≤ 128 ^ 7 := Nat.pow_le_pow_right (by decide) h
  have h2 : ((128 ^ i : Nat) : Int) ≤ ((128 ^ 7 : Nat) : Int) := by omega
  simpa using h2
theorem p128_pos (i : Nat) : (0 : Int) < 128 ^ i := Int.pow_pos (by decide)
theorem or_piece (b n : Int) (i : Nat) (hi : i ≤ 6) (h0 : 0 ≤ b) (h1 : b ≤ 255) (hn : 0 ≤ n) (hn1 : n < 128 ^ i) :
    Go.bits .or .i64 n (shl .i64 (wrap64 (Go.bits .and .u8 b 127)) (wrap64 (7 * (i : Int)))) = n + b % 128 * 128 ^ i ∧ n + b % 128 * 128 ^ i < 128 ^ (i + 1) := by
  have hp := p128 (i + 1) (by omega)
  have hq := p128_pos i
  have e7 : (2 : Int) ^ (7 * i) = 128 ^ i := by rw [Int.pow_mul]; rfl
  have hb : b % 128 * 128 ^ i ≤ 127 * 128 ^ i := Int.mul_le_mul_of_nonneg_right (by omega) (by omega)
  have hb0 : 0 ≤ b % 128 * 128 ^ i := Int.mul_nonneg (by omega) (by omega)
  have hmod : (b % 128 * 128 ^ i) % 2 ^ (7 * i) = 0 := by rw [e7]; exact Int.mul_emod_left _ _
  have hs : (128 : Int) ^ (i + 1) = 128 ^ i * 128 := Int.pow_succ ..
  rw [hs] at hp ⊢
  have e1 : shl .i64 (wrap64 (Go.bits .and .u8 b 127)) (wrap64 (7 * (i : Int))) = b % 128 * 128 ^ i := by
    unfold shl
    rw [and127_u8 h0 (by omega), w64 (n := b % 128) (by omega) (by omega), w64 (n := 7 * (i : Int)) (by omega) (by omega)]
    rw [show min (7 * (i : Int)).toNat IntKind.i64.bits = 7 * i by simp only [IntKind.bits]; omega, e7]
    generalize b % 128 * 128 ^ i = y at *
    exact wraps_i64 _ hb0 (by omega)
  rw [e1]
  refine ⟨or_low (7 * i) hn (by rw [e7]; exact hn1) hb0 ?_ hmod (by omega), ?_⟩
  · generalize b % 128 * 128 ^ i = y at *; omega
  · generalize b % 128 * 128 ^ i = y at *; omega
theorem impl_ReadVar_l0 (s : ByteArray) (m : Nat) (hm : m ≤ 7) (hs : m ≤ s.size) (d : Nat) : ∀ (i : Nat) (n : Int), i + d = m → 0 ≤ n → n < 128 ^ i → Ev (fun k => impl_ReadVar.l0 k s n m i) (rvGo s d i n) := by
  induction d with
  | zero =>
    intro i n hi h0 h1
    exact Ev.step (f := fun _ => some (0, 0)) (fun k => by simp only [impl_ReadVar.l0]; rw [if_neg (by omega)]) (Ev.now _)
  | succ d ih =>
    intro i n hi h0 h1
    have hb := bt_u8 s (i : Int)
    obtain ⟨e1, hlt⟩ := or_piece (bt s i) n i (by omega) hb.1 hb.2 h0 h1
    have hge : 0 ≤ n + bt s i % 128 * 128 ^ i := by
      have := Int.mul_nonneg (show 0 ≤ bt s (i : Int) % 128 by omega) (Int.le_of_lt (p128_pos i))
      omega
    have hp := p128 (i + 1) (by omega)
    have hmax : ¬ (n + bt s i % 128 * 128 ^ i > 562949953421311) := by
      generalize n + bt s i % 128 * 128 ^ i = y at *
      generalize (128 : Int) ^ (i + 1) = z at *
      omega
    have c1 : (i : Int) < (m : Int) := by omega
    have c2 : (0 : Int) ≤ (i : Int) := by omega
    have c3 : (i : Int) < (s.size : Int) := by omega
    have hn := ih (i + 1) (n + bt s i % 128 * 128 ^ i) (by omega) hge hlt
    have c5 : (0 : Int) ≤ wrap64 (7 * (i : Int)) := by rw [w64 (by omega) (by omega)]; omega
    have e4 : wrap64 ((i : Int) + 1) = (i : Int) + 1 := w64 (by omega) (by omega)
    refine Ev.step (fun k => by simp only [impl_ReadVar.l0]; rw [e1, e4, if_pos c1, if_pos c2, if_pos c3, if_pos c5]) ?_
    simp only [rvGo]
    by_cases hlow : bt s (i : Int) < 128
    · simp only [if_pos hlow, if_neg hmax]
      by_cases hpos : (i : Int) > 0
      · simp only [if_pos hpos]
        by_cases hz : bt s (i : Int) = 0
        · simp only [if_pos hz]
          rw [if_pos ⟨Int.natCast_pos.mp hpos, hz⟩]; exact Ev.now _
        · simp only [if_neg hz]
          rw [if_neg (fun h => hz h.2)]; exact Ev.now _
      · simp only [if_neg hpos]
        rw [if_neg (fun h => hpos (Int.natCast_pos.mpr h.1))]; exact Ev.now _
    · simp only [if_neg hlow]
      exact hn
theorem impl_ReadVar_ev (s : ByteArray) (hs : s.size ≤ 140737488351232) : Ev (fun k => impl_ReadVar.f k s) (readVar s) := by
  unfold impl_ReadVar.f readVar
  have e : mn (s.size : Int) 7 = ((min s.size 7 : Nat) : Int) := by
    unfold mn; by_cases h : (7 : Int) < s.size
    · rw [if_pos h]; omega
    · rw [if_neg h]; omega
  rw [e]
  exact impl_ReadVar_l0 s _ (by omega) (by omega) (min s.size 7) 0 0 (by omega) (by omega) (by simp)

theorem law : laws_FnExactReadVar.Pure := by
  intro a0 h0
  refine Ev.rounds ?_
  unfold laws_FnExactReadVar.f
  by_cases h : (a0.size : Int) > 1048576
  · simp only [if_pos h]; exact Ev.now _
  · simp only [if_neg h]
    refine Ev.bind (spec_ReadVar_ev a0) (Ev.bind (impl_ReadVar_ev a0 h0) ?_)
    simp only [if_true]
    exact Ev.now _

end Go.Proofs.Ytllakpcmghncoaa.PureFnExactReadVar
namespace Go.Proofs.Ytllakpcmghncoaa.Pure
theorem FnExactReadVar : Go.Proofs.Ytllakpcmghncoaa.PFnExactReadVar.laws_FnExactReadVar.Pure := Go.Proofs.Ytllakpcmghncoaa.PureFnExactReadVar.law
end Go.Proofs.Ytllakpcmghncoaa.Pure
