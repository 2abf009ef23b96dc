/- A slice of whole numbers that the call has built, sorted by the library with a comparison over whole numbers: what the same slice holds behind it. Conditions: those that each theorem names. -/
import Derived.Test.YtejcbclcifnomaaWWords
import Derived.Test.YtejcbclcifnomaaWMore
import Derived.Sort.OwnSortedInts
import Derived.Sort.AssemblyPlain
import Derived.Shelf.SlSortCmp.Whole1
namespace Go.Proofs.Ytejcbclcifnomaa.S
open Go.RowKit Go.Sort Go.Shelf Go.Lib Go.Proofs Go.Proofs.YtejcbclcifnomaaW.PrintWords Go.Proofs.YtejcbclcifnomaaW.PrintMore
set_option linter.unusedVariables false
set_option linter.unusedSimpArgs false
section
variable {α : Type} [Inhabited α] (enc : α → Value)
theorem heap_sortedE {w : World} {g n : Nat} {os : Array Obj} {cur : Array Value} {e : TypeId} {fr : Nat × Nat} (d : Array α) (hb : w.heap[g]? = some (.cells cur e fr)) :
    (grow (putRow enc (Sort.ahead w n) g 0 d) os).heap[g]? = some (.cells (putCells enc 0 d cur) e fr) := by
  have hg : g < w.heap.size := (Array.getElem?_eq_some_iff.1 hb).1
  rw [heap_grow_old _ _ (by simpa using hg)]
  simp [putRow, mapBlock, Sort.ahead, Array.getElem?_modify, hb, onCells]
theorem grownBy_sortedE {w : World} {g n : Nat} {os : Array Obj} (d : Array α) : w.grownBy (grow (putRow enc (Sort.ahead w n) g 0 d) os) (some g) := by
  refine ⟨rfl, rfl, rfl, by simp, fun k hk hne => ?_⟩
  rw [heap_grow_old _ _ (by simpa using hk)]
  have : g ≠ k := fun e => hne (by rw [e])
  simp [putRow, mapBlock, Sort.ahead, Array.getElem?_modify, this]
theorem take_putCellsE (cur : Array Value) (d : Array α) (h : d.size ≤ cur.size) : (putCells enc 0 d cur).toList.take d.size = d.toList.map enc := by
  apply List.ext_getElem?
  intro j
  by_cases hj : j < d.size
  · rw [List.getElem?_take_of_lt hj, Array.getElem?_toList]
    simp [putCells, hj, show j < cur.size by omega]
  · rw [List.getElem?_take_eq_none (by omega), List.getElem?_eq_none (by simp; omega)]
end
def cmpI (x y ei ej : Int) : Int := if x < y ∧ y < ei ∨ y < x ∧ x ≥ ej then 1 else if x = y then 0 else -1
def cmpE (E : Nat → Int) (n x y : Nat) : Int := cmpI ((min x (n - 1) : Nat) : Int) ((min y (n - 1) : Nat) : Int) (E (min x (n - 1))) (E (min y (n - 1)))
def encN (n x : Nat) : Value := .int .i64 ((min x (n - 1) : Nat) : Int)
def sorted (E : Nat → Int) (n : Nat) : Array Nat := Sort.pdq (ltOf (cmpE E n)) (Array.range n) 0 n (Lib.bitLen n) true true
def outI (n : Nat) (d : Array Nat) : List Int := d.toList.map fun x => ((min x (n - 1) : Nat) : Int)
def upI (n : Nat) : List Int := (List.range n).map fun i : Nat => (i : Int)
/-- The comparison is a strict weak order. -/
def swoE (E : Nat → Int) (n : Nat) : Prop := SWO (ltOf (cmpE E n))
/-- The same, asked at the places alone. -/
def swo3 (lt : Nat → Nat → Bool) (x y z : Nat) : Bool := !lt x x && ((!(lt x y && lt y z) || lt x z) && ((lt x y || lt y z) || !lt x z))
theorem swo3_iff (lt : Nat → Nat → Bool) (x y z : Nat) : swo3 lt x y z = true ↔ lt x x = false ∧ (lt x y = true → lt y z = true → lt x z = true) ∧ (lt x y = false → lt y z = false → lt x z = false) := by
  unfold swo3
  cases lt x x <;> cases lt x y <;> cases lt y z <;> cases lt x z <;> simp
def swoF (E : Nat → Int) (n : Nat) : Prop := 0 < n ∧ ((List.range n).all fun x => (List.range n).all fun y => (List.range n).all fun z => swo3 (ltOf (cmpE E n)) x y z) = true
instance (E : Nat → Int) (n : Nat) : Decidable (swoF E n) := by unfold swoF; infer_instance
theorem lt_min (E : Nat → Int) (n x y : Nat) : ltOf (cmpE E n) (min x (n - 1)) (min y (n - 1)) = ltOf (cmpE E n) x y := by
  unfold ltOf cmpE
  rw [Nat.min_eq_left (Nat.min_le_right x (n - 1)), Nat.min_eq_left (Nat.min_le_right y (n - 1))]
theorem swo_of (E : Nat → Int) (n : Nat) (h : swoF E n) : swoE E n := by
  obtain ⟨h0, h1⟩ := h
  have hm : ∀ x, min x (n - 1) < n := fun x => by omega
  have h2 : ∀ x y z, swo3 (ltOf (cmpE E n)) (min x (n - 1)) (min y (n - 1)) (min z (n - 1)) = true := fun x y z =>
    List.all_eq_true.1 (List.all_eq_true.1 (List.all_eq_true.1 h1 _ (List.mem_range.2 (hm x))) _ (List.mem_range.2 (hm y))) _ (List.mem_range.2 (hm z))
  have h3 : ∀ x y z, ltOf (cmpE E n) x x = false ∧ (ltOf (cmpE E n) x y = true → ltOf (cmpE E n) y z = true → ltOf (cmpE E n) x z = true) ∧ (ltOf (cmpE E n) x y = false → ltOf (cmpE E n) y z = false → ltOf (cmpE E n) x z = false) := fun x y z => by
    have h4 := (swo3_iff _ _ _ _).1 (h2 x y z)
    simpa only [lt_min] using h4
  exact ⟨fun x => (h3 x x x).1, fun x y z => (h3 x y z).2.1, fun x y z => (h3 x y z).2.2⟩
theorem swo_to (E : Nat → Int) (n : Nat) (h0 : 0 < n) (h : swoE E n) : swoF E n :=
  ⟨h0, List.all_eq_true.2 fun x _ => List.all_eq_true.2 fun y _ => List.all_eq_true.2 fun z _ => (swo3_iff _ _ _ _).2 ⟨h.irrefl x, h.trans x y z, h.ntrans x y z⟩⟩
theorem sorted_size (E : Nat → Int) (n : Nat) (hO : swoE E n) : (sorted E n).size = n := by
  have h := pdq_sorts (ltOf (cmpE E n)) hO (Array.range n) 0 n (Lib.bitLen n) true true (Nat.zero_le _) (by simp) (Or.inl rfl)
  have := h.1.1
  simpa [sorted] using this
theorem reps_ints {P : Int → List Value → Prop} (hP : ∀ x c, c = [Value.int .i64 x] → P x c) (xs : List Int) : Reps P 1 xs (xs.map fun x => .int .i64 x) := by
  refine ⟨by simp, fun j p hj => hP _ _ ?_⟩
  obtain ⟨hl, rfl⟩ := List.getElem?_eq_some_iff.1 hj
  rw [Nat.mul_one, List.drop_eq_getElem_cons (by simpa using hl)]
  simp
theorem sort_row {P : Program} {ρ : Ren} (L : SlLaysF.n6 P ρ) (E : Nat → Int) (n e : Nat) (h0 : 0 < n) (hn : n < 4611686018427387904) (hO : swoE E n) (g : Nat) (cb : Array Value) (W : World) (base : Nat) (ok : Nat → Prop) (v : Value)
    (hR : Kd.R (Kd.int .i64) e W base ok v (upI n)) (eg : ∀ args w, (callFunc g args).run P w = .ok (.enter g args) w)
    (hcmp : ∀ W', W.grownBy W' v.ownBlock → ∀ x y : Nat, x < n → y < n → Calls P g (#[.int .i64 x, .int .i64 y] ++ cb) W' fun e w' => e = .returned (.int .i64 (cmpI x y (E x) (E y))) ∧ ∃ q, w' = W'.drewN q) :
    Calls P (ρ.f 6) #[v, .func (.func g) #[] cb] W fun e' w' => e' = .returned (.tuple #[]) ∧ Kd.R (Kd.int .i64) e w' base ok v (outI n (sorted E n)) ∧ W.grownBy w' v.ownBlock := by
  have hlen : (upI n).length = n := by simp [upI]
  obtain ⟨A, c, hv, hcap, hC⟩ := Kd.R_reads hR
  obtain ⟨hok, inner, ho, hreps⟩ := hR
  rw [hlen] at ho
  rcases ho.2 with ⟨_, hz⟩ | ⟨b, cap, cur, rfl, hbase, hb, hcap1, hmax, hcur, htake⟩
  · omega
  have hblk : b < W.heap.size := (Array.getElem?_eq_some_iff.1 hb).1
  have hcells : ∀ j, j < n → W.cell? ⟨b, j, none⟩ = some (.int .i64 (j : Int)) := by
    intro j hj
    have hi : inner = (cur.toList.take (n * 1)) := htake.symm
    have hj2 : (inner.drop (j * 1)).take 1 = [Value.int .i64 (j : Int)] := hreps.2 j (j : Int) (by simp [upI, hj])
    rw [Nat.mul_one] at hj2
    have hil : j < inner.length := by rw [hreps.1, hlen]; show j < n * 1; omega
    have hone : (inner.drop j).take 1 = [inner[j]] := by rw [List.drop_eq_getElem_cons hil]; rfl
    have hval : [inner[j]] = [Value.int .i64 (j : Int)] := by rw [← hone]; exact hj2
    have hval2 : inner[j] = Value.int .i64 (j : Int) := by simpa using hval
    rw [blk_cell hb]
    have hjc : inner[j]? = some (Value.int .i64 (j : Int)) := by rw [List.getElem?_eq_getElem hil, hval2]
    rw [hi, List.getElem?_take_of_lt (by omega), Array.getElem?_toList] at hjc
    exact hjc
  have hH : Holds (encN n) W b 0 (Array.range n) := by
    intro j hj
    have hj' : j < n := by simpa using hj
    refine ⟨?_, blk_frozen hb _⟩
    rw [Nat.zero_add, hcells j hj']
    unfold encN
    have : (Array.range n)[j]! = j := by simp [hj']
    rw [this, Nat.min_eq_left (by omega)]
  have hreads : CmpReads P g cb (encN n) (cmpE E n) b 0 (Array.range n).size W := by
    intro m os dk _ x y
    have hx : min x (n - 1) < n := by omega
    have hy : min y (n - 1) < n := by omega
    exact hcmp _ (grownBy_sortedE (encN n) dk) _ _ hx hy
  have hcon := Any.slices_SortFunc_eq L (encN n) (fun _ => rfl) (cmpE E n) hO g cb b 0 cap (Array.range n) W eg hreads.lays hH hblk (by simpa using hn)
  rw [show (Array.range n).size = n by simp] at hcon
  refine hcon.mono ?_
  rintro e' w' ⟨rfl, m, os, rfl⟩
  have hsz : (sorted E n).size = n := sorted_size E n hO
  refine ⟨rfl, ⟨hok, (outI n (sorted E n)).map fun x => .int .i64 x, ?_, reps_ints (fun _ _ h => h) _⟩, grownBy_sortedE (encN n) _⟩
  have hol : (outI n (sorted E n)).length = n := by simp [outI, hsz]
  rw [hol]
  refine ⟨by rw [List.length_map, hol]; show n = n * 1; omega, .inr ⟨b, cap, _, rfl, hbase, heap_sortedE (encN n) _ hb, hcap1, hmax, by simp [putCells, hcur], ?_⟩⟩
  have ht := take_putCellsE (encN n) cur (sorted E n) (by rw [hsz, hcur]; show n ≤ cap * 1; omega)
  rw [hsz] at ht
  show (putCells (encN n) 0 (sorted E n) cur).toList.take (n * 1) = _
  rw [Nat.mul_one, ht]
  simp [outI, encN]
end Go.Proofs.Ytejcbclcifnomaa.S
