/-
  No cell of these rows narrows 'for every input' (looked for: loops, veiled, ifaces, maps, wideKeys, modest, calm, conditions, laid).
  DERIVED. THE GIVEN ROWS OF THIS SEAT. 12 by the template 'for every input the law returns true; each argument reads behind the call as it read before'; 0 by the template 'total and deterministic' (their statements: YtejcbclcifnomaaTotals.lean).
  GIVEN WITH THE SEED: the statements are not yours to turn. If you find one false, say at which input.
  Laid BY PROGRAM, IN A SANDBOX (cutbox-rows.mjs): the forced cells as the released guide's own fill.sh prints them over the translation 171674b64db49402… (all of the seat's roots in one cut). By AI agents, Wed Nov 11 2026. No macro, syntax, notation, axiom, sorry.
-/
import Derived.Test.YtejcbclcifnomaaChecked
import GoSem.Claim
import GoSem.ClaimJoined
import GoSem.ClaimMapViews
import Derived.JoinedTies
import Derived.KernelRfl
namespace Go.Proofs.Ytejcbclcifnomaa
/- THE CELL 'sum', in the pinned program and in every row, IS THE sha256 OF THE DUMP (.gsa) THAT YtejcbclcifnomaaProg.lean LOADS. Nothing in Lean hashes anything: it is a label: what it is worth is what the hold of that sum in a sandbox is worth. -/
noncomputable def Try.pinned : Pinned := { name := "ytejcbclcifnomaa", sum := "171674b64db49402c4f87ae473d08c5426f07339d8f3f2b33f7d57e73c083af1", checked := Try.checked }
namespace Rows
def none {H : Type} : Left H := { results := [], args := [] }

/-- 'laws.FnExactUnhex': WHATEVER THE INPUT: true; the input reads as it did. -/
def fnExactUnhexSpec : ChangeSpec := { name := "fnExactUnhex", fn := fun _ => fun
  | [d] => { results := [.lit (.bool true)], args := [d] }
  | _ => none }
def fnExactUnhexRow : OpenClaim := { program := "ytejcbclcifnomaa", sum := "171674b64db49402c4f87ae473d08c5426f07339d8f3f2b33f7d57e73c083af1", func := "loop.example/g01618/laws.FnExactUnhex", spec := "fnExactUnhex", apart := false }
def FnExactUnhexSaid : Prop := fnExactUnhexRow.holds Try.pinned (OpenSpec.ofChange fnExactUnhexSpec)

/-- ITS FALSE NEIGHBOUR: 'it returns false'. Refute it at one input. -/
def fnExactUnhexWrong : ChangeSpec := { name := "fnExactUnhex", fn := fun _ => fun
  | [d] => { results := [.lit (.bool false)], args := [d] }
  | _ => none }
def FnExactUnhexWrongFalsely : Prop := fnExactUnhexRow.holds Try.pinned (OpenSpec.ofChange fnExactUnhexWrong)

/-- 'laws.FnExactSameTree': WHATEVER THE INPUT: true; the input reads as it did. -/
def fnExactSameTreeSpec : ChangeSpec := { name := "fnExactSameTree", fn := fun _ => fun
  | [d1, d2] => { results := [.lit (.bool true)], args := [d1, d2] }
  | _ => none }
def fnExactSameTreeRow : OpenClaim := { program := "ytejcbclcifnomaa", sum := "171674b64db49402c4f87ae473d08c5426f07339d8f3f2b33f7d57e73c083af1", func := "loop.example/g01618/laws.FnExactSameTree", spec := "fnExactSameTree", apart := false }
def FnExactSameTreeSaid : Prop := fnExactSameTreeRow.holds Try.pinned (OpenSpec.ofChange fnExactSameTreeSpec)

/-- ITS FALSE NEIGHBOUR: 'it returns false'. Refute it at one input. -/
def fnExactSameTreeWrong : ChangeSpec := { name := "fnExactSameTree", fn := fun _ => fun
  | [d1, d2] => { results := [.lit (.bool false)], args := [d1, d2] }
  | _ => none }
def FnExactSameTreeWrongFalsely : Prop := fnExactSameTreeRow.holds Try.pinned (OpenSpec.ofChange fnExactSameTreeWrong)

/-- 'laws.FnExactTreeOk': WHATEVER THE INPUT: true; the input reads as it did. -/
def fnExactTreeOkSpec : ChangeSpec := { name := "fnExactTreeOk", fn := fun _ => fun
  | [d] => { results := [.lit (.bool true)], args := [d] }
  | _ => none }
def fnExactTreeOkRow : OpenClaim := { program := "ytejcbclcifnomaa", sum := "171674b64db49402c4f87ae473d08c5426f07339d8f3f2b33f7d57e73c083af1", func := "loop.example/g01618/laws.FnExactTreeOk", spec := "fnExactTreeOk", apart := false }
def FnExactTreeOkSaid : Prop := fnExactTreeOkRow.holds Try.pinned (OpenSpec.ofChange fnExactTreeOkSpec)

/-- ITS FALSE NEIGHBOUR: 'it returns false'. Refute it at one input. -/
def fnExactTreeOkWrong : ChangeSpec := { name := "fnExactTreeOk", fn := fun _ => fun
  | [d] => { results := [.lit (.bool false)], args := [d] }
  | _ => none }
def FnExactTreeOkWrongFalsely : Prop := fnExactTreeOkRow.holds Try.pinned (OpenSpec.ofChange fnExactTreeOkWrong)

/-- 'laws.FnExactHeightOf': WHATEVER THE INPUT: true; the input reads as it did. -/
def fnExactHeightOfSpec : ChangeSpec := { name := "fnExactHeightOf", fn := fun _ => fun
  | [d] => { results := [.lit (.bool true)], args := [d] }
  | _ => none }
def fnExactHeightOfRow : OpenClaim := { program := "ytejcbclcifnomaa", sum := "171674b64db49402c4f87ae473d08c5426f07339d8f3f2b33f7d57e73c083af1", func := "loop.example/g01618/laws.FnExactHeightOf", spec := "fnExactHeightOf", apart := false }
def FnExactHeightOfSaid : Prop := fnExactHeightOfRow.holds Try.pinned (OpenSpec.ofChange fnExactHeightOfSpec)

/-- ITS FALSE NEIGHBOUR: 'it returns false'. Refute it at one input. -/
def fnExactHeightOfWrong : ChangeSpec := { name := "fnExactHeightOf", fn := fun _ => fun
  | [d] => { results := [.lit (.bool false)], args := [d] }
  | _ => none }
def FnExactHeightOfWrongFalsely : Prop := fnExactHeightOfRow.holds Try.pinned (OpenSpec.ofChange fnExactHeightOfWrong)

/-- 'laws.FnExactSameCost': WHATEVER THE INPUT: true; the input reads as it did. -/
def fnExactSameCostSpec : ChangeSpec := { name := "fnExactSameCost", fn := fun _ => fun
  | [d1, d2] => { results := [.lit (.bool true)], args := [d1, d2] }
  | _ => none }
def fnExactSameCostRow : OpenClaim := { program := "ytejcbclcifnomaa", sum := "171674b64db49402c4f87ae473d08c5426f07339d8f3f2b33f7d57e73c083af1", func := "loop.example/g01618/laws.FnExactSameCost", spec := "fnExactSameCost", apart := false }
def FnExactSameCostSaid : Prop := fnExactSameCostRow.holds Try.pinned (OpenSpec.ofChange fnExactSameCostSpec)

/-- ITS FALSE NEIGHBOUR: 'it returns false'. Refute it at one input. -/
def fnExactSameCostWrong : ChangeSpec := { name := "fnExactSameCost", fn := fun _ => fun
  | [d1, d2] => { results := [.lit (.bool false)], args := [d1, d2] }
  | _ => none }
def FnExactSameCostWrongFalsely : Prop := fnExactSameCostRow.holds Try.pinned (OpenSpec.ofChange fnExactSameCostWrong)

/-- 'laws.FnCells': WHATEVER THE INPUT: true; the input reads as it did. -/
def fnCellsSpec : ChangeSpec := { name := "fnCells", fn := fun _ => fun
  | [d] => { results := [.lit (.bool true)], args := [d] }
  | _ => none }
def fnCellsRow : OpenClaim := { program := "ytejcbclcifnomaa", sum := "171674b64db49402c4f87ae473d08c5426f07339d8f3f2b33f7d57e73c083af1", func := "loop.example/g01618/laws.FnCells", spec := "fnCells", unfollowed := true, recurses := true, apart := false }
def FnCellsSaid : Prop := fnCellsRow.holds Try.pinned (OpenSpec.ofChange fnCellsSpec)

/-- ITS FALSE NEIGHBOUR: 'it returns false'. Refute it at one input. -/
def fnCellsWrong : ChangeSpec := { name := "fnCells", fn := fun _ => fun
  | [d] => { results := [.lit (.bool false)], args := [d] }
  | _ => none }
def FnCellsWrongFalsely : Prop := fnCellsRow.holds Try.pinned (OpenSpec.ofChange fnCellsWrong)

/-- 'laws.FnExactUnitCost': WHATEVER THE INPUT: true; the input reads as it did. -/
def fnExactUnitCostSpec : ChangeSpec := { name := "fnExactUnitCost", fn := fun _ => fun
  | [] => { results := [.lit (.bool true)], args := [] }
  | _ => none }
def fnExactUnitCostRow : OpenClaim := { program := "ytejcbclcifnomaa", sum := "171674b64db49402c4f87ae473d08c5426f07339d8f3f2b33f7d57e73c083af1", func := "loop.example/g01618/laws.FnExactUnitCost", spec := "fnExactUnitCost", apart := false }
def FnExactUnitCostSaid : Prop := fnExactUnitCostRow.holds Try.pinned (OpenSpec.ofChange fnExactUnitCostSpec)

/-- ITS FALSE NEIGHBOUR: 'it returns false'. Refute it at one input. -/
def fnExactUnitCostWrong : ChangeSpec := { name := "fnExactUnitCost", fn := fun _ => fun
  | [] => { results := [.lit (.bool false)], args := [] }
  | _ => none }
def FnExactUnitCostWrongFalsely : Prop := fnExactUnitCostRow.holds Try.pinned (OpenSpec.ofChange fnExactUnitCostWrong)

/-- 'laws.FnExactParentOf': WHATEVER THE INPUT: true; the input reads as it did. -/
def fnExactParentOfSpec : ChangeSpec := { name := "fnExactParentOf", fn := fun _ => fun
  | [d1, d2] => { results := [.lit (.bool true)], args := [d1, d2] }
  | _ => none }
def fnExactParentOfRow : OpenClaim := { program := "ytejcbclcifnomaa", sum := "171674b64db49402c4f87ae473d08c5426f07339d8f3f2b33f7d57e73c083af1", func := "loop.example/g01618/laws.FnExactParentOf", spec := "fnExactParentOf", apart := false }
def FnExactParentOfSaid : Prop := fnExactParentOfRow.holds Try.pinned (OpenSpec.ofChange fnExactParentOfSpec)

/-- ITS FALSE NEIGHBOUR: 'it returns false'. Refute it at one input. -/
def fnExactParentOfWrong : ChangeSpec := { name := "fnExactParentOf", fn := fun _ => fun
  | [d1, d2] => { results := [.lit (.bool false)], args := [d1, d2] }
  | _ => none }
def FnExactParentOfWrongFalsely : Prop := fnExactParentOfRow.holds Try.pinned (OpenSpec.ofChange fnExactParentOfWrong)

/-- 'laws.FnExactEndOf': WHATEVER THE INPUT: true; the input reads as it did. -/
def fnExactEndOfSpec : ChangeSpec := { name := "fnExactEndOf", fn := fun _ => fun
  | [d1, d2] => { results := [.lit (.bool true)], args := [d1, d2] }
  | _ => none }
def fnExactEndOfRow : OpenClaim := { program := "ytejcbclcifnomaa", sum := "171674b64db49402c4f87ae473d08c5426f07339d8f3f2b33f7d57e73c083af1", func := "loop.example/g01618/laws.FnExactEndOf", spec := "fnExactEndOf", apart := false }
def FnExactEndOfSaid : Prop := fnExactEndOfRow.holds Try.pinned (OpenSpec.ofChange fnExactEndOfSpec)

/-- ITS FALSE NEIGHBOUR: 'it returns false'. Refute it at one input. -/
def fnExactEndOfWrong : ChangeSpec := { name := "fnExactEndOf", fn := fun _ => fun
  | [d1, d2] => { results := [.lit (.bool false)], args := [d1, d2] }
  | _ => none }
def FnExactEndOfWrongFalsely : Prop := fnExactEndOfRow.holds Try.pinned (OpenSpec.ofChange fnExactEndOfWrong)

/-- 'laws.FnExactLeftOf': WHATEVER THE INPUT: true; the input reads as it did. -/
def fnExactLeftOfSpec : ChangeSpec := { name := "fnExactLeftOf", fn := fun _ => fun
  | [d1, d2, d3] => { results := [.lit (.bool true)], args := [d1, d2, d3] }
  | _ => none }
def fnExactLeftOfRow : OpenClaim := { program := "ytejcbclcifnomaa", sum := "171674b64db49402c4f87ae473d08c5426f07339d8f3f2b33f7d57e73c083af1", func := "loop.example/g01618/laws.FnExactLeftOf", spec := "fnExactLeftOf", apart := false }
def FnExactLeftOfSaid : Prop := fnExactLeftOfRow.holds Try.pinned (OpenSpec.ofChange fnExactLeftOfSpec)

/-- ITS FALSE NEIGHBOUR: 'it returns false'. Refute it at one input. -/
def fnExactLeftOfWrong : ChangeSpec := { name := "fnExactLeftOf", fn := fun _ => fun
  | [d1, d2, d3] => { results := [.lit (.bool false)], args := [d1, d2, d3] }
  | _ => none }
def FnExactLeftOfWrongFalsely : Prop := fnExactLeftOfRow.holds Try.pinned (OpenSpec.ofChange fnExactLeftOfWrong)

/-- 'laws.FnExactUnder': WHATEVER THE INPUT: true; the input reads as it did. -/
def fnExactUnderSpec : ChangeSpec := { name := "fnExactUnder", fn := fun _ => fun
  | [d1, d2, d3] => { results := [.lit (.bool true)], args := [d1, d2, d3] }
  | _ => none }
def fnExactUnderRow : OpenClaim := { program := "ytejcbclcifnomaa", sum := "171674b64db49402c4f87ae473d08c5426f07339d8f3f2b33f7d57e73c083af1", func := "loop.example/g01618/laws.FnExactUnder", spec := "fnExactUnder", apart := false }
def FnExactUnderSaid : Prop := fnExactUnderRow.holds Try.pinned (OpenSpec.ofChange fnExactUnderSpec)

/-- ITS FALSE NEIGHBOUR: 'it returns false'. Refute it at one input. -/
def fnExactUnderWrong : ChangeSpec := { name := "fnExactUnder", fn := fun _ => fun
  | [d1, d2, d3] => { results := [.lit (.bool false)], args := [d1, d2, d3] }
  | _ => none }
def FnExactUnderWrongFalsely : Prop := fnExactUnderRow.holds Try.pinned (OpenSpec.ofChange fnExactUnderWrong)

/-- 'laws.FnExactCostOk': WHATEVER THE INPUT: true; the input reads as it did. -/
def fnExactCostOkSpec : ChangeSpec := { name := "fnExactCostOk", fn := fun _ => fun
  | [d] => { results := [.lit (.bool true)], args := [d] }
  | _ => none }
def fnExactCostOkRow : OpenClaim := { program := "ytejcbclcifnomaa", sum := "171674b64db49402c4f87ae473d08c5426f07339d8f3f2b33f7d57e73c083af1", func := "loop.example/g01618/laws.FnExactCostOk", spec := "fnExactCostOk", unfollowed := true, recurses := true, apart := false }
def FnExactCostOkSaid : Prop := fnExactCostOkRow.holds Try.pinned (OpenSpec.ofChange fnExactCostOkSpec)

/-- ITS FALSE NEIGHBOUR: 'it returns false'. Refute it at one input. -/
def fnExactCostOkWrong : ChangeSpec := { name := "fnExactCostOk", fn := fun _ => fun
  | [d] => { results := [.lit (.bool false)], args := [d] }
  | _ => none }
def FnExactCostOkWrongFalsely : Prop := fnExactCostOkRow.holds Try.pinned (OpenSpec.ofChange fnExactCostOkWrong)

/- THE SECOND FORM. 'bulk': how many values and letters a reading holds, each counted each time it is reached (what is shared counts as often as it is met; a slice's spare places count too). A statement '..UptoSaid' is the law's where the arguments, and the package variables that the reading takes, are together of bulk at most 1048576: NARROWER than '..Said'. Prove '..Said' where nothing that the law and all that it calls make is longer than what came in: it says more and counts as full. Else prove '..UptoSaid'. A law counts once. -/
mutual
def uptoBulk {H : Type} : DataW H → Nat
  | .lit (.string bytes) => bytes.length + 1
  | .lit _ => 1
  | .nil => 1
  | .ptr d => uptoBulk d + 1
  | .slice elems spare => uptoBulkAll elems + uptoBulkAll spare + 1
  | .agg parts => uptoBulkAll parts + 1
  | .iface _ d => uptoBulk d + 1
  | .map entries => uptoBulkEntries entries + 1
  | .held _ => 1
def uptoBulkAll {H : Type} : List (DataW H) → Nat
  | [] => 0
  | d :: r => uptoBulk d + uptoBulkAll r
def uptoBulkEntries {H : Type} : List (Lit × DataW H) → Nat
  | [] => 0
  | x :: r => uptoBulkEntry x + uptoBulkEntries r
def uptoBulkEntry {H : Type} : Lit × DataW H → Nat
  | (.string bytes, d) => bytes.length + uptoBulk d + 1
  | (_, d) => uptoBulk d + 1
 end
def uptoSmall : (H : Type) → List (DataW H) → Bool := fun _ ds => decide (uptoBulkAll ds ≤ 1048576)
def OpenSpec.upto (s : _root_.Go.ChangeSpec) : _root_.Go.OpenSpec := { _root_.Go.OpenSpec.ofChange s with cond := some uptoSmall }

/-- 'laws.FnExactUnhex', WHERE WHAT IT READS IS OF BULK AT MOST 1048576: true; the input reads as it did. -/
def fnExactUnhexUptoRow : OpenClaim := { program := "ytejcbclcifnomaa", sum := "171674b64db49402c4f87ae473d08c5426f07339d8f3f2b33f7d57e73c083af1", func := "loop.example/g01618/laws.FnExactUnhex", spec := "fnExactUnhex", apart := false, narrowed := true }
def FnExactUnhexUptoSaid : Prop := fnExactUnhexUptoRow.holds Try.pinned (OpenSpec.upto fnExactUnhexSpec)

/-- 'laws.FnExactSameTree', WHERE WHAT IT READS IS OF BULK AT MOST 1048576: true; the input reads as it did. -/
def fnExactSameTreeUptoRow : OpenClaim := { program := "ytejcbclcifnomaa", sum := "171674b64db49402c4f87ae473d08c5426f07339d8f3f2b33f7d57e73c083af1", func := "loop.example/g01618/laws.FnExactSameTree", spec := "fnExactSameTree", apart := false, narrowed := true }
def FnExactSameTreeUptoSaid : Prop := fnExactSameTreeUptoRow.holds Try.pinned (OpenSpec.upto fnExactSameTreeSpec)

/-- 'laws.FnExactTreeOk', WHERE WHAT IT READS IS OF BULK AT MOST 1048576: true; the input reads as it did. -/
def fnExactTreeOkUptoRow : OpenClaim := { program := "ytejcbclcifnomaa", sum := "171674b64db49402c4f87ae473d08c5426f07339d8f3f2b33f7d57e73c083af1", func := "loop.example/g01618/laws.FnExactTreeOk", spec := "fnExactTreeOk", apart := false, narrowed := true }
def FnExactTreeOkUptoSaid : Prop := fnExactTreeOkUptoRow.holds Try.pinned (OpenSpec.upto fnExactTreeOkSpec)

/-- 'laws.FnExactHeightOf', WHERE WHAT IT READS IS OF BULK AT MOST 1048576: true; the input reads as it did. -/
def fnExactHeightOfUptoRow : OpenClaim := { program := "ytejcbclcifnomaa", sum := "171674b64db49402c4f87ae473d08c5426f07339d8f3f2b33f7d57e73c083af1", func := "loop.example/g01618/laws.FnExactHeightOf", spec := "fnExactHeightOf", apart := false, narrowed := true }
def FnExactHeightOfUptoSaid : Prop := fnExactHeightOfUptoRow.holds Try.pinned (OpenSpec.upto fnExactHeightOfSpec)

/-- 'laws.FnExactSameCost', WHERE WHAT IT READS IS OF BULK AT MOST 1048576: true; the input reads as it did. -/
def fnExactSameCostUptoRow : OpenClaim := { program := "ytejcbclcifnomaa", sum := "171674b64db49402c4f87ae473d08c5426f07339d8f3f2b33f7d57e73c083af1", func := "loop.example/g01618/laws.FnExactSameCost", spec := "fnExactSameCost", apart := false, narrowed := true }
def FnExactSameCostUptoSaid : Prop := fnExactSameCostUptoRow.holds Try.pinned (OpenSpec.upto fnExactSameCostSpec)

/-- 'laws.FnCells', WHERE WHAT IT READS IS OF BULK AT MOST 1048576: true; the input reads as it did. -/
def fnCellsUptoRow : OpenClaim := { program := "ytejcbclcifnomaa", sum := "171674b64db49402c4f87ae473d08c5426f07339d8f3f2b33f7d57e73c083af1", func := "loop.example/g01618/laws.FnCells", spec := "fnCells", unfollowed := true, recurses := true, apart := false, narrowed := true }
def FnCellsUptoSaid : Prop := fnCellsUptoRow.holds Try.pinned (OpenSpec.upto fnCellsSpec)

/-- 'laws.FnExactUnitCost', WHERE WHAT IT READS IS OF BULK AT MOST 1048576: true; the input reads as it did. -/
def fnExactUnitCostUptoRow : OpenClaim := { program := "ytejcbclcifnomaa", sum := "171674b64db49402c4f87ae473d08c5426f07339d8f3f2b33f7d57e73c083af1", func := "loop.example/g01618/laws.FnExactUnitCost", spec := "fnExactUnitCost", apart := false, narrowed := true }
def FnExactUnitCostUptoSaid : Prop := fnExactUnitCostUptoRow.holds Try.pinned (OpenSpec.upto fnExactUnitCostSpec)

/-- 'laws.FnExactParentOf', WHERE WHAT IT READS IS OF BULK AT MOST 1048576: true; the input reads as it did. -/
def fnExactParentOfUptoRow : OpenClaim := { program := "ytejcbclcifnomaa", sum := "171674b64db49402c4f87ae473d08c5426f07339d8f3f2b33f7d57e73c083af1", func := "loop.example/g01618/laws.FnExactParentOf", spec := "fnExactParentOf", apart := false, narrowed := true }
def FnExactParentOfUptoSaid : Prop := fnExactParentOfUptoRow.holds Try.pinned (OpenSpec.upto fnExactParentOfSpec)

/-- 'laws.FnExactEndOf', WHERE WHAT IT READS IS OF BULK AT MOST 1048576: true; the input reads as it did. -/
def fnExactEndOfUptoRow : OpenClaim := { program := "ytejcbclcifnomaa", sum := "171674b64db49402c4f87ae473d08c5426f07339d8f3f2b33f7d57e73c083af1", func := "loop.example/g01618/laws.FnExactEndOf", spec := "fnExactEndOf", apart := false, narrowed := true }
def FnExactEndOfUptoSaid : Prop := fnExactEndOfUptoRow.holds Try.pinned (OpenSpec.upto fnExactEndOfSpec)

/-- 'laws.FnExactLeftOf', WHERE WHAT IT READS IS OF BULK AT MOST 1048576: true; the input reads as it did. -/
def fnExactLeftOfUptoRow : OpenClaim := { program := "ytejcbclcifnomaa", sum := "171674b64db49402c4f87ae473d08c5426f07339d8f3f2b33f7d57e73c083af1", func := "loop.example/g01618/laws.FnExactLeftOf", spec := "fnExactLeftOf", apart := false, narrowed := true }
def FnExactLeftOfUptoSaid : Prop := fnExactLeftOfUptoRow.holds Try.pinned (OpenSpec.upto fnExactLeftOfSpec)

/-- 'laws.FnExactUnder', WHERE WHAT IT READS IS OF BULK AT MOST 1048576: true; the input reads as it did. -/
def fnExactUnderUptoRow : OpenClaim := { program := "ytejcbclcifnomaa", sum := "171674b64db49402c4f87ae473d08c5426f07339d8f3f2b33f7d57e73c083af1", func := "loop.example/g01618/laws.FnExactUnder", spec := "fnExactUnder", apart := false, narrowed := true }
def FnExactUnderUptoSaid : Prop := fnExactUnderUptoRow.holds Try.pinned (OpenSpec.upto fnExactUnderSpec)

/-- 'laws.FnExactCostOk', WHERE WHAT IT READS IS OF BULK AT MOST 1048576: true; the input reads as it did. -/
def fnExactCostOkUptoRow : OpenClaim := { program := "ytejcbclcifnomaa", sum := "171674b64db49402c4f87ae473d08c5426f07339d8f3f2b33f7d57e73c083af1", func := "loop.example/g01618/laws.FnExactCostOk", spec := "fnExactCostOk", unfollowed := true, recurses := true, apart := false, narrowed := true }
def FnExactCostOkUptoSaid : Prop := fnExactCostOkUptoRow.holds Try.pinned (OpenSpec.upto fnExactCostOkSpec)

end Rows
end Go.Proofs.Ytejcbclcifnomaa
