/- Words for walks by hand. No condition beyond those of each theorem. -/
import Derived.Test.YtpkokfffjgdjoaaHFnBytesx0
namespace Go.Proofs.Ytpkokfffjgdjoaa.HFnBytes
open Go.RowKit Go.Proofs.YtpkokfffjgdjoaaW.PrintWords Go.Proofs.YtpkokfffjgdjoaaW.PrintLast Go.Proofs.YtpkokfffjgdjoaaW.PrintMore
set_option linter.unusedVariables false
set_option linter.unusedSimpArgs false
/-! ### Regions in any order, by what holds whatever has come up -/
section
variable {P : Program} {ops : Array Oper} {Q : Exit → Act → World → Prop} {md : Region.Mode} {S : World → Prop} {ds : List Nat} {T : Bool × List (List Nat × List Nat)}
theorem withAct {n : Nat} {l : Array Bool} {a : Act} {w : World} (h : ∀ a0, a0 = a → wpAnyLast P md ops Q S ds n l a0 w) : wpAnyLast P md ops Q S ds n l a w := h a rfl
theorem inv_ {I : Nat → Array Bool → Act → World → Prop} (hT : rtab md ops = T)
    (hs : ∀ n l a w, I n l a w → wpAnyLast P md ops Q S ds n l a w ∨ ∃ m, n = m + 1 ∧ readyT T.2 l.toList ≠ [] ∧ ∀ i ∈ readyT T.2 l.toList, wpOp P ops Q i (fun a' w' => (i ∉ ds → S w → S w') ∧ I m (l.setIfInBounds i true) a' w') a w) :
    ∀ n l a w, I n l a w → wpAnyLast P md ops Q S ds n l a w := by
  intro n
  induction n with
  | zero =>
    intro l a w h
    rcases hs _ _ _ _ h with h | ⟨m, h, _⟩
    · exact h
    · cases h
  | succ n ih =>
    intro l a w h
    rcases hs _ _ _ _ h with h | ⟨m, hm, hne, h⟩
    · exact h
    · obtain rfl : n = m := by omega
      have e : Region.ready md ops l = readyT T.2 l.toList := by rw [ready_eq, hT]
      refine wpAnyLast_all e hne fun i hi => wpOp_mono (fun a' w' h' => ⟨h'.1, ih _ _ _ h'.2⟩) (h i hi)
end
/-- Three fields of a struct in memory (type 35), stored. -/
structure Wrote (W w1 : World) (g : Nat) (cs : Array Value) : Prop where
  blk : w1.heap[g]? = some (.cells cs 35 (0, 0))
  R : ∀ {b : Nat} {ok : Nat → Prop} {v : Value} {xs : List Int}, Kd.R (Kd.int .i64) 3 W b ok v xs → Kd.R (Kd.int .i64) 3 w1 b ok v xs
  below : ∀ {w0 : World}, Below w0.heap.size w0 W → w0.heap.size ≤ g → Below w0.heap.size w0 w1
  far : ∀ {g' : Nat} {o : Obj}, g' ≠ g → W.heap[g']? = some o → w1.heap[g']? = some o
  sz : W.heap.size ≤ w1.heap.size
theorem wroteR {W : World} {g : Nat} {cs cs' : Array Value} (hb : W.heap[g]? = some (.cells cs 35 (0, 0))) : Wrote W (W.setRow g cs') g cs' :=
  ⟨setRow_heap W g cs cs' 35 _ hb, fun h => Kd.R_mono (Kd.R_step (Kd.R_types h hb (by decide)) (fun k hk _ => setRow_other W g k cs' hk.2)) (fun _ hk => hk.1),
    fun h hg => ⟨h.os, h.tape, h.output, by rw [size_setRow]; exact h.size, fun k hk => (setRow_other _ g k cs' (by omega)).trans (h.block k hk)⟩, fun hn h => (setRow_other _ g _ cs' hn).trans h, by rw [size_setRow]; exact Nat.le_refl _⟩
section
variable {ops : Array Oper} {rest : List Oper} {o : Oper} {a : Act} {W : World} {Q : Exit → Act → World → Prop} {Kc : Act → World → Prop} {p s : Tmp} {g : Nat} {x y z x0 y0 z0 : Value}
theorem store3 (ho : o.op = .store 35 (.tmp p) (.tmp s)) (hgd : o.guard = none) (hd : o.dst = none) (hx : a.eval (.tmp p) = .pointer (some ⟨g, 0, none⟩)) (hy : a.eval (.tmp s) = .agg #[x, y, z])
    (hb : W.heap[g]? = some (.cells #[x0, y0, z0] 35 (0, 0))) (h : ∀ w1, Wrote W w1 g #[x, y, z] → wpList Try.prog ops Q rest a w1) (h1 : x.oneCell' = true := by rfl) (h2 : y.oneCell' = true := by rfl) (h3 : z.oneCell' = true := by rfl) : wpList Try.prog ops Q (o :: rest) a W := by
  refine wpList_store_row hgd 35 (.tmp p) (.tmp s) ho g _ hx hy 35 _ hb (by kernel_rfl) rfl (by simp [h1, h2, h3]) ?_
  rw [hd]
  exact h _ (wroteR hb)
theorem store3_step (hw : Region.wanted o (yielded ops a.tmps) = true) (ho : o.op = .store 35 (.tmp p) (.tmp s)) (hd : o.dst = none) (hx : a.eval (.tmp p) = .pointer (some ⟨g, 0, none⟩)) (hy : a.eval (.tmp s) = .agg #[x, y, z])
    (hb : W.heap[g]? = some (.cells #[x0, y0, z0] 35 (0, 0))) (h : ∀ w1, Wrote W w1 g #[x, y, z] → Kc a w1) (h1 : x.oneCell' = true := by rfl) (h2 : y.oneCell' = true := by rfl) (h3 : z.oneCell' = true := by rfl) : if Region.wanted o (yielded ops a.tmps) = true then Oper.wp Try.prog o a W Kc Q else Kc (a.put none undef) W := by
  rw [if_pos hw]
  refine wp_store_row 35 (.tmp p) (.tmp s) ho g _ hx hy 35 _ hb (by kernel_rfl) rfl (by simp [h1, h2, h3]) ?_
  rw [hd]
  exact h _ (wroteR hb)
end
theorem cuts3 {W : World} {A : Option Addr} {c : Nat} {l : List Int} (hC : Kd.C (Kd.int .i64) W A l.length l) (hr : l.length ≤ c) (h12 : 12 ≤ l.length) :
    ∃ A2 c2 A3 c3, (∀ w, (Instr.slice 33 (.slice A l.length c) none (some (.int .i64 6)) none).run Try.prog w = .ok (.slice A (l.take 6).length c) w) ∧
      (∀ w, (Instr.slice 33 (.slice A l.length c) (some (.int .i64 6)) (some (.int .i64 12)) none).run Try.prog w = .ok (.slice A2 ((l.take 12).drop 6).length c2) w) ∧
      (∀ w, (Instr.slice 33 (.slice A l.length c) (some (.int .i64 12)) none none).run Try.prog w = .ok (.slice A3 (l.drop 12).length c3) w) ∧
      Kd.C (Kd.int .i64) W A (l.take 6).length (l.take 6) ∧ (l.take 6).length ≤ c ∧ Kd.C (Kd.int .i64) W A2 ((l.take 12).drop 6).length ((l.take 12).drop 6) ∧ ((l.take 12).drop 6).length ≤ c2 ∧
      Kd.C (Kd.int .i64) W A3 (l.drop 12).length (l.drop 12) ∧ (l.drop 12).length ≤ c3 := by
  obtain ⟨i0, hi, _, hsz, _⟩ := info_parts info3
  have e1 : (l.take 6).length = (6 : Int).toNat := by rw [List.length_take]; omega
  have e2 : ((l.take 12).drop 6).length = (12 : Int).toNat - (6 : Int).toNat := by rw [List.length_drop, List.length_take]; omega
  have e3 : (l.drop 12).length = l.length - (12 : Int).toNat := by rw [List.length_drop]; omega
  have q6 : (6 : Int) ≤ (l.length : Int) := by omega
  have q12 : (12 : Int) ≤ (l.length : Int) := by omega
  have h1 := cut_to (P := Try.prog) 33 3 .i64 Try.underlying33 hi A l.length c 6 (by omega) q6 hr
  have h2 := cut_mid (P := Try.prog) 33 3 .i64 .i64 Try.underlying33 hi 1 hsz A l.length c 6 12 (by omega) (by omega) q12 hr
  have h3 := cut_from (P := Try.prog) 33 3 .i64 Try.underlying33 hi 1 hsz A l.length c 12 (by omega) q12
  rw [← e1] at h1
  rw [← e2] at h2
  rw [← e3] at h3
  have k2 := Kd.C_mid (lo := (6 : Int).toNat) (hi := (12 : Int).toNat) (c := c) hC (by omega) (by omega) hr
  have k3 := Kd.C_drop (m := (12 : Int).toNat) (c := c) hC (by omega) hr
  exact ⟨_, _, _, _, h1, h2, h3, Kd.C_take (m := 6) hC (by omega), by omega, k2, by omega, k3, by omega⟩
theorem R_empty {W : World} {b g : Nat} (h : W.heap[g]? = some (.cells #[] 3 (0, 0))) (hb : b ≤ g) : Kd.R (Kd.int .i64) 3 W b (fun _ => True) (.slice (some ⟨g, 0, none⟩) 0 0) [] :=
  Kd.R_of_own (xs := []) ⟨rfl, .inr ⟨g, 0, #[], rfl, hb, h, Nat.le_refl _, by unfold maxLen; omega, rfl, rfl⟩⟩ (fun _ _ => trivial)
theorem app1_step {ops : Array Oper} {o : Oper} {a : Act} {W w0 : World} {Q : Exit → Act → World → Prop} {Kc : Act → World → Prop} {B : Nat} {s x : Tmp} {v : Value} {xs : List Int} {p : Int} (hw : Region.wanted o (yielded ops a.tmps) = true)
    (ho : o.op = .call { callee := .builtin .append, args := #[.tmp s, .tmp x], argTypes := #[33, 33] }) (hs : a.eval (.tmp s) = v) (hx : a.eval (.tmp x) = .slice (some ⟨W.heap.size, 0, none⟩) 1 1)
    (HO : Kd.R (Kd.int .i64) 3 W B (fun _ => True) v xs) (HB : Below B w0 W) (hbase : B ≤ W.heap.size) (hl : xs.length < 17592186044416)
    (h : ∀ v1 w1, Kd.R (Kd.int .i64) 3 w1 B (fun _ => True) v1 (xs ++ [p]) → Below B w0 w1 → W.grownBy w1 v.ownBlock → Kc (a.put o.dst v1) w1) :
    if Region.wanted o (yielded ops a.tmps) = true then Oper.wp Try.prog o a (W.alloc (.cells #[.int .i64 p] 3)) Kc Q else Kc (a.put o.dst undef) (W.alloc (.cells #[.int .i64 p] 3)) :=
  Kd.R_append_step (Kd.int .i64) (w0 := w0) B hw (.tmp s) (.tmp x) 33 3 (.int .i64 0) 8 ho Try.underlying33 info3 rfl (by decide) (by omega) v xs p [.int .i64 p] (fun _ => True) (fun _ => False) hs hx rfl (fun _ hk => hk.elim) (fun _ _ => trivial) HO HB hbase (by omega)
    (fun v1 w1 h1 h2 h3 _ => h v1 w1 h1 h2 h3)
abbrev bits (n m : Nat) : Array Bool := ((List.range n).map fun i => m.testBit i).toArray
section
variable {P : Program} {ops : Array Oper} {Q : Exit → Act → World → Prop} {md : Region.Mode} {T : Bool × List (List Nat × List Nat)}
/-- One operation alone may come up: an event that makes a value. -/
theorem oneV (i : Nat) (N : Tmp) {oi : Oper} {fuel : Nat} {l : Array Bool} {a a' : Act} {w w1 : World} {v : Value} (l' : Array Bool) (hT : rtab md ops = T) (h : wpAnyLast P md ops Q (fun _ => True) [] fuel l' a' w1)
    (hi : ops[i]? = some oi := by rfl) (hN : oi.dst = some N := by rfl) (hc : (readyT T.2 l.toList == [i] && l.toList.set i true == l'.toList) = true := by kernel_rfl) (hw : Region.wanted oi (yielded ops a.tmps) = true := by rfl)
    (hrun : (execOp a.eval oi).run P w = .ok (.value v) w1 := by go_simp; (first | done | rfl | (constructor <;> rfl))) (ha : a.put (some N) v = a' := by simp only [Act.put, List.setIfInBounds_toArray, List.set_cons_zero, List.set_cons_succ, i64_w, i32_w]; rfl) :
    wpAnyLast P md ops Q (fun _ => True) [] (fuel + 1) l a w := by
  refine one_ (i := i) (N := some N) l' hi hN (one_of hT hc) (by simp) (fun K hK => ?_)
  rw [if_pos hw]
  unfold Oper.wp
  rw [hrun]
  show K (a.put oi.dst v) w1
  rw [hN, ha]
  exact hK.out _ _ trivial (fun _ => h)
/-- One operation alone may come up: what it does is shown here. -/
theorem oneK (i : Nat) (N : Option Tmp) {oi : Oper} {fuel : Nat} {l : Array Bool} {a : Act} {w : World} (l' : Array Bool) (hT : rtab md ops = T)
    (h : ∀ K : Act → World → Prop, (∀ a' w', wpAnyLast P md ops Q (fun _ => True) [] fuel l' a' w' → K a' w') → if Region.wanted oi (yielded ops a.tmps) = true then Oper.wp P oi a w K Q else K (a.put N undef) w)
    (hi : ops[i]? = some oi := by rfl) (hN : oi.dst = N := by rfl) (hc : (readyT T.2 l.toList == [i] && l.toList.set i true == l'.toList) = true := by kernel_rfl) : wpAnyLast P md ops Q (fun _ => True) [] (fuel + 1) l a w :=
  one_ (i := i) (N := N) l' hi hN (one_of hT hc) (by simp) (fun K hK => h K (fun a' w' h' => hK.out a' w' trivial (fun _ => h')))
/-- The act written out. -/
theorem normA {n : Nat} {l : Array Bool} {a a' : Act} {w : World} {ds : List Nat} {S : World → Prop} (h : wpAnyLast P md ops Q S ds n l a' w) (ha : a = a' := by simp only [Act.put, List.setIfInBounds_toArray, List.set_cons_zero, List.set_cons_succ, i64_w, i32_w]; rfl) : wpAnyLast P md ops Q S ds n l a w := ha ▸ h
end
theorem load3 {ops : Array Oper} {rest : List Oper} {o : Oper} {a : Act} {W : World} {Q : Exit → Act → World → Prop} {p N : Tmp} {g : Nat} {x y z : Value} (ho : o.op = .load 35 (.tmp p)) (hd : o.dst = some N) (hgd : o.guard = none) (hx : a.eval (.tmp p) = .pointer (some ⟨g, 0, none⟩))
    (hb : W.heap[g]? = some (.cells #[x, y, z] 35 (0, 0))) (h : wpList Try.prog ops Q rest (a.put o.dst (.agg #[x, y, z])) W) : wpList Try.prog ops Q (o :: rest) a W :=
  wpList_load_row hgd 35 (.tmp p) ho g hx 35 _ (0, 0) _ hb Try.underlying35 rfl (by kernel_rfl) h
theorem app0 {W : World} {g : Nat} {A : Option Addr} {c : Nat} {ys : List Int} {ty : TypeId} (hg : W.heap[g]? = some (.cells #[] 3 (0, 0))) (hC : Kd.C (Kd.int .i64) W A ys.length ys) (hl : ys.length < 17592186044416) :
    ∃ v1 w1, (Builtin.append_ #[33, 33] ty #[.slice (some ⟨g, 0, none⟩) 0 0, .slice A ys.length c]).run Try.prog W = .ok v1 w1 ∧ Kd.R (Kd.int .i64) 3 w1 0 (fun _ => True) v1 ys ∧ Below W.heap.size W w1 := by
  obtain ⟨i0, hi, hz0, hz1, hz2⟩ := info_parts info3
  have hr := Kd.reads_of_C (d := (0 : Int)) hC
  rcases Nat.eq_zero_or_pos ys.length with h0 | h0
  · obtain rfl := List.eq_nil_of_length_eq_zero h0
    refine ⟨_, W, ?_, R_empty hg (Nat.zero_le _), Below.refl _ _⟩
    cases A with
    | none => simp [Builtin.append_, run_underlying Try.underlying33, sizeOf, typeInfo, hi, Builtin.lenOf, Builtin.firstCells, storeCells]
    | some ad =>
      have hf : (loadCells ad 0).run Try.prog W = .ok #[] W := run_loadCells_list (P := Try.prog) W ad [] (by simp)
      simp [Builtin.append_, run_underlying Try.underlying33, sizeOf, typeInfo, hi, hz1, Builtin.lenOf, hf, Builtin.firstCells, storeCells]
  · obtain ⟨ad, rfl, hc⟩ := hr.2.2 h0
    have hn : ∀ j u, (ys.map (Value.int .i64))[j]? = some u → W.cell? (ad.add j) = some u := by
      intro j u hu
      have hj : j < ys.length := by have := (List.getElem?_eq_some_iff.1 hu).1; simpa using this
      have h1 := hc j hj
      rw [h1]
      simpa [List.getD, List.getElem?_eq_getElem hj] using hu
    have e1 := run_append_nil (P := Try.prog) W 33 ty 3 i0 _ Try.underlying33 hi hz0 ad ys.length c (ys.map (Value.int .i64)) (by simp [hz1]) hn h0 (by omega) (by rw [hz2]; omega)
    have e2 := run_append_grow (P := Try.prog) W 33 ty 3 i0 _ Try.underlying33 hi hz0 ⟨g, 0, none⟩ 0 0 [] (by simp) (by simp) ad ys.length c (ys.map (Value.int .i64)) (by simp [hz1]) hn (by omega) (by omega) (growslice_fits (by omega) (by rw [hz2]; omega))
    obtain ⟨v1, w1, h1, h2, h3, _, _⟩ := run_append_own_at (P := Try.prog) W 0 33 ty 3 i0 _ 1 8 Try.underlying33 hi hz0 hz1 hz2 rfl (by omega) (.slice none 0 0) 0 [] ⟨rfl, .inl ⟨rfl, rfl⟩⟩ ad ys.length c (ys.map (Value.int .i64)) (by simp) hn (by simp; exact fun _ _ => rfl) (by unfold maxLen; omega) (by omega) (Nat.zero_le _)
    simp only [Nat.zero_add, List.nil_append, Array.empty_append] at e2 h2
    refine ⟨v1, w1, ?_, Kd.R_of_own h2 (fun _ _ => trivial), ⟨h3.os, h3.tape, h3.output, h3.size, fun k hk => h3.block k hk (by simp [Value.ownBlock])⟩⟩
    rw [← h1, e1]
    simpa using e2
theorem app0_step {ops : Array Oper} {o : Oper} {a : Act} {W : World} {Q : Exit → Act → World → Prop} {Kc : Act → World → Prop} {s x : Tmp} {g : Nat} {A : Option Addr} {c : Nat} {ys : List Int} (N : Tmp) (hN : o.dst = some N) (hw : Region.wanted o (yielded ops a.tmps) = true)
    (ho : o.op = .call { callee := .builtin .append, args := #[.tmp s, .tmp x], argTypes := #[33, 33] }) (hs : a.eval (.tmp s) = .slice (some ⟨g, 0, none⟩) 0 0) (hx : a.eval (.tmp x) = .slice A ys.length c)
    (hg : W.heap[g]? = some (.cells #[] 3 (0, 0))) (hC : Kd.C (Kd.int .i64) W A ys.length ys) (hl : ys.length < 17592186044416)
    (h : ∀ v1 w1, Kd.R (Kd.int .i64) 3 w1 0 (fun _ => True) v1 ys → Below W.heap.size W w1 → Kc (a.put (some N) v1) w1) :
    if Region.wanted o (yielded ops a.tmps) = true then Oper.wp Try.prog o a W Kc Q else Kc (a.put o.dst undef) W := by
  rw [← hN] at h
  obtain ⟨v1, w1, hr1, h1, h2⟩ := app0 (ty := o.type) (c := c) hg hC hl
  rw [if_pos hw]
  unfold Oper.wp execOp
  simp only [ho, resolve, invoke, builtin, Sem.run_bind, Sem.run_pure, Result.andThen_ok, List.map_toArray, List.map_cons, List.map_nil, hs, hx, hr1]
  exact h v1 w1 h1 h2
theorem evN {ops : Array Oper} {o : Oper} {a : Act} {W w1 : World} {Q : Exit → Act → World → Prop} {Kc : Act → World → Prop} {v : Value} (N : Tmp) (hw : Region.wanted o (yielded ops a.tmps) = true) (hN : o.dst = some N) (hrun : (execOp a.eval o).run Try.prog W = .ok (.value v) w1) (h : Kc (a.put (some N) v) w1) :
    if Region.wanted o (yielded ops a.tmps) = true then Oper.wp Try.prog o a W Kc Q else Kc (a.put o.dst undef) W := event_step hw hrun (by rw [hN]; exact h)
section
variable {P : Program} {ops : Array Oper} {Q : Exit → Act → World → Prop} {md : Region.Mode} {S : World → Prop} {ds : List Nat} {T : Bool × List (List Nat × List Nat)} {B : List Nat}
/-- A load may be taken first: S tells what it finds. -/
theorem takA (i : Nat) (N : Tmp) {oi : Oper} {v : Value} {fuel : Nat} {l : Array Bool} {a a' : Act} {w : World} (l' : Array Bool) (hT : rtab md ops = T) (hW : waitsOk T.2 B = true) (hS : S w) (h : wpAnyLast P md ops Q S ds fuel l' a' w)
    (hi : ops[i]? = some oi := by rfl) (hN : oi.dst = some N := by rfl) (hw : Region.wanted oi (yielded ops a.tmps) = true := by rfl)
    (hy : ∀ w', S w' → (execOp a.eval oi).run P w' = .ok (.value v) w' := by first | (intro w' s0; go_simp; with_reducible rfl) | (rintro w' ⟨s0, s1⟩; go_simp; with_reducible rfl) | (rintro w' ⟨s0, s1, s2⟩; go_simp; with_reducible rfl))
    (ha : a.put (some N) v = a' := by simp only [Act.put, List.setIfInBounds_toArray, List.set_cons_zero, List.set_cons_succ, i64_w, i32_w]; rfl) (hk : takeW T B ds l.toList l'.toList i = true := by kernel_rfl)
    (hQ : ∀ c a w, Q (.panic c) (a.put oi.dst v) w → Q (.panic c) a w := by exact fun _ _ _ h => h) : wpAnyLast P md ops Q S ds (fuel + 1) l a w := take_ l' hi hN (take_ofW hT hW hk) hQ (Or.inl ⟨hw, hy⟩) hS ha h
/-- The region's last store: nothing is to be shown behind it. -/
theorem lastS (i : Nat) {oi : Oper} {fuel : Nat} {l : Array Bool} {a : Act} {w w1 : World} (l' : Array Bool) (hT : rtab md ops = T) (hd : i ∈ ds) (hi : ops[i]? = some oi) (hN : oi.dst = none) (hw : Region.wanted oi (yielded ops a.tmps) = true)
    (hrun : (execOp a.eval oi).run P w = .ok .skip w1) (h : wpAnyLast P md ops Q S ds fuel l' a w1) (hc : (readyT T.2 l.toList == [i] && l.toList.set i true == l'.toList) = true := by kernel_rfl) : wpAnyLast P md ops Q S ds (fuel + 1) l a w := by
  refine last_ (i := i) (N := none) l' hi hN (one_of hT hc) hd (fun K hK => ?_)
  rw [if_pos hw]
  unfold Oper.wp
  rw [hrun]
  show K (a.put oi.dst undef) w1
  rw [hN]
  exact hK.out _ _ h
end
section
variable {P : Program} {ops : Array Oper} {Q : Exit → Act → World → Prop} {md : Region.Mode} {S : World → Prop} {ds : List Nat} {T : Bool × List (List Nat × List Nat)}
theorem oneVS (i : Nat) (N : Tmp) {oi : Oper} {fuel : Nat} {l : Array Bool} {a a' : Act} {w w1 : World} {v : Value} (l' : Array Bool) (hT : rtab md ops = T) (hd : i ∉ ds) (hS : S w1) (h : S w1 → wpAnyLast P md ops Q S ds fuel l' a' w1)
    (hi : ops[i]? = some oi := by rfl) (hN : oi.dst = some N := by rfl) (hc : (readyT T.2 l.toList == [i] && l.toList.set i true == l'.toList) = true := by kernel_rfl) (hw : Region.wanted oi (yielded ops a.tmps) = true := by rfl)
    (hrun : (execOp a.eval oi).run P w = .ok (.value v) w1 := by go_simp; (first | done | rfl | (constructor <;> rfl))) (ha : a.put (some N) v = a' := by simp only [Act.put, List.setIfInBounds_toArray, List.set_cons_zero, List.set_cons_succ, i64_w, i32_w]; rfl) :
    wpAnyLast P md ops Q S ds (fuel + 1) l a w := by
  refine one_ (i := i) (N := some N) l' hi hN (one_of hT hc) hd (fun K hK => ?_)
  rw [if_pos hw]
  unfold Oper.wp
  rw [hrun]
  show K (a.put oi.dst v) w1
  rw [hN, ha]
  exact hK.out _ _ hS h
theorem oneKS (i : Nat) (N : Option Tmp) {oi : Oper} {fuel : Nat} {l : Array Bool} {a : Act} {w : World} (l' : Array Bool) (hT : rtab md ops = T) (hd : i ∉ ds)
    (h : ∀ K : Act → World → Prop, (∀ a' w', S w' → (S w' → wpAnyLast P md ops Q S ds fuel l' a' w') → K a' w') → if Region.wanted oi (yielded ops a.tmps) = true then Oper.wp P oi a w K Q else K (a.put N undef) w)
    (hi : ops[i]? = some oi := by rfl) (hN : oi.dst = N := by rfl) (hc : (readyT T.2 l.toList == [i] && l.toList.set i true == l'.toList) = true := by kernel_rfl) : wpAnyLast P md ops Q S ds (fuel + 1) l a w :=
  one_ (i := i) (N := N) l' hi hN (one_of hT hc) hd (fun K hK => h K (fun a' w' hS h' => hK.out a' w' hS h'))
end
theorem litC (w : World) (l : List Int) (hl : l.length ≤ 9223372036854775807) : Kd.C (Kd.int .i64) (w.alloc (.cells (l.map (Value.int .i64)).toArray 3 (0, 0))) (some ⟨w.heap.size, 0, none⟩) l.length l := by
  refine Kd.C_of_reads (d := (0 : Int)) ⟨rfl, hl, fun _ => ⟨_, rfl, fun j hj => ?_⟩⟩
  have hadd : (⟨w.heap.size, 0, none⟩ : Addr).add j = ⟨w.heap.size, j, none⟩ := by unfold Addr.add; split <;> simp_all
  rw [hadd, cell_of_row _ _ j _ 3 (0, 0) (blk_new w _)]
  simp [List.getD, List.getElem?_eq_getElem hj]
end Go.Proofs.Ytpkokfffjgdjoaa.HFnBytes
