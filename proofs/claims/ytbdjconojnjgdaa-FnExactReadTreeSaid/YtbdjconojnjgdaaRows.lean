/-
  No cell of these rows narrows 'for every input' (looked for: loops, veiled, ifaces, maps, wideKeys, modest, calm, conditions, laid).
  DERIVED. THE GIVEN ROWS OF THIS SEAT. 9 by the template 'for every input the law returns true; each argument reads behind the call as it read before'; 0 by the template 'total and deterministic' (their statements: YtbdjconojnjgdaaTotals.lean).
  GIVEN WITH THE SEED: the statements are not yours to turn. If you find one false, say at which input.
  Laid BY PROGRAM, IN A SANDBOX (cutbox-rows.mjs): the forced cells as the released guide's own fill.sh prints them over the translation 6ad444a223fd1bf8… (all of the seat's roots in one cut). By AI agents, Wed Nov 11 2026. No macro, syntax, notation, axiom, sorry.
-/
import Derived.Test.YtbdjconojnjgdaaChecked
import GoSem.Claim
import GoSem.ClaimJoined
import GoSem.ClaimMapViews
import Derived.JoinedTies
import Derived.KernelRfl
namespace Go.Proofs.Ytbdjconojnjgdaa
/- THE CELL 'sum', in the pinned program and in every row, IS THE sha256 OF THE DUMP (.gsa) THAT YtbdjconojnjgdaaProg.lean LOADS. Nothing in Lean hashes anything: it is a label: what it is worth is what the hold of that sum in a sandbox is worth. -/
noncomputable def Try.pinned : Pinned := { name := "ytbdjconojnjgdaa", sum := "6ad444a223fd1bf8cf439808afa1ae835d619d0eaad683284ef67ff4502b8c82", checked := Try.checked }
namespace Rows
def none {H : Type} : Left H := { results := [], args := [] }

/-- 'laws.FnExactPutCost': WHATEVER THE INPUT: true; the input reads as it did. -/
def fnExactPutCostSpec : ChangeSpec := { name := "fnExactPutCost", fn := fun _ => fun
  | [d] => { results := [.lit (.bool true)], args := [d] }
  | _ => none }
def fnExactPutCostRow : OpenClaim := { program := "ytbdjconojnjgdaa", sum := "6ad444a223fd1bf8cf439808afa1ae835d619d0eaad683284ef67ff4502b8c82", func := "loop.example/g01618/laws.FnExactPutCost", spec := "fnExactPutCost", unfollowed := true, recurses := true, apart := false }
def FnExactPutCostSaid : Prop := fnExactPutCostRow.holds Try.pinned (OpenSpec.ofChange fnExactPutCostSpec)

/-- ITS FALSE NEIGHBOUR: 'it returns false'. Refute it at one input. -/
def fnExactPutCostWrong : ChangeSpec := { name := "fnExactPutCost", fn := fun _ => fun
  | [d] => { results := [.lit (.bool false)], args := [d] }
  | _ => none }
def FnExactPutCostWrongFalsely : Prop := fnExactPutCostRow.holds Try.pinned (OpenSpec.ofChange fnExactPutCostWrong)

/-- 'laws.FnExactGetCost': WHATEVER THE INPUT: true; the input reads as it did. -/
def fnExactGetCostSpec : ChangeSpec := { name := "fnExactGetCost", fn := fun _ => fun
  | [d] => { results := [.lit (.bool true)], args := [d] }
  | _ => none }
def fnExactGetCostRow : OpenClaim := { program := "ytbdjconojnjgdaa", sum := "6ad444a223fd1bf8cf439808afa1ae835d619d0eaad683284ef67ff4502b8c82", func := "loop.example/g01618/laws.FnExactGetCost", spec := "fnExactGetCost", unfollowed := true, recurses := true, apart := false }
def FnExactGetCostSaid : Prop := fnExactGetCostRow.holds Try.pinned (OpenSpec.ofChange fnExactGetCostSpec)

/-- ITS FALSE NEIGHBOUR: 'it returns false'. Refute it at one input. -/
def fnExactGetCostWrong : ChangeSpec := { name := "fnExactGetCost", fn := fun _ => fun
  | [d] => { results := [.lit (.bool false)], args := [d] }
  | _ => none }
def FnExactGetCostWrongFalsely : Prop := fnExactGetCostRow.holds Try.pinned (OpenSpec.ofChange fnExactGetCostWrong)

/-- 'laws.FnExactTreeText': WHATEVER THE INPUT: true; the input reads as it did. -/
def fnExactTreeTextSpec : ChangeSpec := { name := "fnExactTreeText", fn := fun _ => fun
  | [d] => { results := [.lit (.bool true)], args := [d] }
  | _ => none }
def fnExactTreeTextRow : OpenClaim := { program := "ytbdjconojnjgdaa", sum := "6ad444a223fd1bf8cf439808afa1ae835d619d0eaad683284ef67ff4502b8c82", func := "loop.example/g01618/laws.FnExactTreeText", spec := "fnExactTreeText", inPlace := ["internal/abi.NoEscape", "internal/bytealg.MakeNoZero"], recurses := true, apart := false }
def FnExactTreeTextSaid : Prop := fnExactTreeTextRow.holds Try.pinned (OpenSpec.ofChange fnExactTreeTextSpec)

/-- ITS FALSE NEIGHBOUR: 'it returns false'. Refute it at one input. -/
def fnExactTreeTextWrong : ChangeSpec := { name := "fnExactTreeText", fn := fun _ => fun
  | [d] => { results := [.lit (.bool false)], args := [d] }
  | _ => none }
def FnExactTreeTextWrongFalsely : Prop := fnExactTreeTextRow.holds Try.pinned (OpenSpec.ofChange fnExactTreeTextWrong)

/-- 'laws.FnExactReadTree': WHATEVER THE INPUT: true; the input reads as it did. -/
def fnExactReadTreeSpec : ChangeSpec := { name := "fnExactReadTree", fn := fun _ => fun
  | [d] => { results := [.lit (.bool true)], args := [d] }
  | _ => none }
def fnExactReadTreeRow : OpenClaim := { program := "ytbdjconojnjgdaa", sum := "6ad444a223fd1bf8cf439808afa1ae835d619d0eaad683284ef67ff4502b8c82", func := "loop.example/g01618/laws.FnExactReadTree", spec := "fnExactReadTree", inPlace := ["internal/bytealg.IndexByteString", "internal/bytealg.IndexString", "internal/abi.NoEscape", "internal/bytealg.MakeNoZero"], recurses := true, named := ["internal/bytealg.MaxLen"], apart := false }
def FnExactReadTreeSaid : Prop := fnExactReadTreeRow.holds Try.pinned (OpenSpec.ofChange fnExactReadTreeSpec)

/-- ITS FALSE NEIGHBOUR: 'it returns false'. Refute it at one input. -/
def fnExactReadTreeWrong : ChangeSpec := { name := "fnExactReadTree", fn := fun _ => fun
  | [d] => { results := [.lit (.bool false)], args := [d] }
  | _ => none }
def FnExactReadTreeWrongFalsely : Prop := fnExactReadTreeRow.holds Try.pinned (OpenSpec.ofChange fnExactReadTreeWrong)

/-- 'laws.FnExactPostOrder': WHATEVER THE INPUT: true; the input reads as it did. -/
def fnExactPostOrderSpec : ChangeSpec := { name := "fnExactPostOrder", fn := fun _ => fun
  | [d] => { results := [.lit (.bool true)], args := [d] }
  | _ => none }
def fnExactPostOrderRow : OpenClaim := { program := "ytbdjconojnjgdaa", sum := "6ad444a223fd1bf8cf439808afa1ae835d619d0eaad683284ef67ff4502b8c82", func := "loop.example/g01618/laws.FnExactPostOrder", spec := "fnExactPostOrder", unfollowed := true, recurses := true, apart := false }
def FnExactPostOrderSaid : Prop := fnExactPostOrderRow.holds Try.pinned (OpenSpec.ofChange fnExactPostOrderSpec)

/-- ITS FALSE NEIGHBOUR: 'it returns false'. Refute it at one input. -/
def fnExactPostOrderWrong : ChangeSpec := { name := "fnExactPostOrder", fn := fun _ => fun
  | [d] => { results := [.lit (.bool false)], args := [d] }
  | _ => none }
def FnExactPostOrderWrongFalsely : Prop := fnExactPostOrderRow.holds Try.pinned (OpenSpec.ofChange fnExactPostOrderWrong)

/-- 'laws.FnExactRankOf': WHATEVER THE INPUT: true; the input reads as it did. -/
def fnExactRankOfSpec : ChangeSpec := { name := "fnExactRankOf", fn := fun _ => fun
  | [d] => { results := [.lit (.bool true)], args := [d] }
  | _ => none }
def fnExactRankOfRow : OpenClaim := { program := "ytbdjconojnjgdaa", sum := "6ad444a223fd1bf8cf439808afa1ae835d619d0eaad683284ef67ff4502b8c82", func := "loop.example/g01618/laws.FnExactRankOf", spec := "fnExactRankOf", unfollowed := true, recurses := true, apart := false }
def FnExactRankOfSaid : Prop := fnExactRankOfRow.holds Try.pinned (OpenSpec.ofChange fnExactRankOfSpec)

/-- ITS FALSE NEIGHBOUR: 'it returns false'. Refute it at one input. -/
def fnExactRankOfWrong : ChangeSpec := { name := "fnExactRankOf", fn := fun _ => fun
  | [d] => { results := [.lit (.bool false)], args := [d] }
  | _ => none }
def FnExactRankOfWrongFalsely : Prop := fnExactRankOfRow.holds Try.pinned (OpenSpec.ofChange fnExactRankOfWrong)

/-- 'laws.FnIndex': WHATEVER THE INPUT: true; the input reads as it did. -/
def fnIndexSpec : ChangeSpec := { name := "fnIndex", fn := fun _ => fun
  | [d] => { results := [.lit (.bool true)], args := [d] }
  | _ => none }
def fnIndexRow : OpenClaim := { program := "ytbdjconojnjgdaa", sum := "6ad444a223fd1bf8cf439808afa1ae835d619d0eaad683284ef67ff4502b8c82", func := "loop.example/g01618/laws.FnIndex", spec := "fnIndex", unfollowed := true, recurses := true, apart := false }
def FnIndexSaid : Prop := fnIndexRow.holds Try.pinned (OpenSpec.ofChange fnIndexSpec)

/-- ITS FALSE NEIGHBOUR: 'it returns false'. Refute it at one input. -/
def fnIndexWrong : ChangeSpec := { name := "fnIndex", fn := fun _ => fun
  | [d] => { results := [.lit (.bool false)], args := [d] }
  | _ => none }
def FnIndexWrongFalsely : Prop := fnIndexRow.holds Try.pinned (OpenSpec.ofChange fnIndexWrong)

/-- 'laws.FnExactLeftLeaf': WHATEVER THE INPUT: true; the input reads as it did. -/
def fnExactLeftLeafSpec : ChangeSpec := { name := "fnExactLeftLeaf", fn := fun _ => fun
  | [d] => { results := [.lit (.bool true)], args := [d] }
  | _ => none }
def fnExactLeftLeafRow : OpenClaim := { program := "ytbdjconojnjgdaa", sum := "6ad444a223fd1bf8cf439808afa1ae835d619d0eaad683284ef67ff4502b8c82", func := "loop.example/g01618/laws.FnExactLeftLeaf", spec := "fnExactLeftLeaf", unfollowed := true, recurses := true, apart := false }
def FnExactLeftLeafSaid : Prop := fnExactLeftLeafRow.holds Try.pinned (OpenSpec.ofChange fnExactLeftLeafSpec)

/-- ITS FALSE NEIGHBOUR: 'it returns false'. Refute it at one input. -/
def fnExactLeftLeafWrong : ChangeSpec := { name := "fnExactLeftLeaf", fn := fun _ => fun
  | [d] => { results := [.lit (.bool false)], args := [d] }
  | _ => none }
def FnExactLeftLeafWrongFalsely : Prop := fnExactLeftLeafRow.holds Try.pinned (OpenSpec.ofChange fnExactLeftLeafWrong)

/-- 'laws.FnBytes': WHATEVER THE INPUT: true; the input reads as it did. -/
def fnBytesSpec : ChangeSpec := { name := "fnBytes", fn := fun _ => fun
  | [d] => { results := [.lit (.bool true)], args := [d] }
  | _ => none }
def fnBytesRow : OpenClaim := { program := "ytbdjconojnjgdaa", sum := "6ad444a223fd1bf8cf439808afa1ae835d619d0eaad683284ef67ff4502b8c82", func := "loop.example/g01618/laws.FnBytes", spec := "fnBytes", unfollowed := true, recurses := true, apart := false }
def FnBytesSaid : Prop := fnBytesRow.holds Try.pinned (OpenSpec.ofChange fnBytesSpec)

/-- ITS FALSE NEIGHBOUR: 'it returns false'. Refute it at one input. -/
def fnBytesWrong : ChangeSpec := { name := "fnBytes", fn := fun _ => fun
  | [d] => { results := [.lit (.bool false)], args := [d] }
  | _ => none }
def FnBytesWrongFalsely : Prop := fnBytesRow.holds Try.pinned (OpenSpec.ofChange fnBytesWrong)

/- THE SECOND FORM. 'bulk': how many values and letters a reading holds, each counted each time it is reached (what is shared counts as often as it is met; a slice's spare places count too). A statement '..UptoSaid' is the law's where the arguments, and the package variables that the reading takes, are together of bulk at most 1048576: NARROWER than '..Said'. Prove '..Said' where nothing that the law and all that it calls make is longer than what came in: it says more and counts as full. Else prove '..UptoSaid'. A law counts once. -/
mutual
def uptoBulk {H : Type} : DataW H → Nat
  | .lit (.string bytes) => bytes.length + 1
  | .lit _ => 1
  | .nil => 1
  | .ptr d => uptoBulk d + 1
  | .slice elems spare => uptoBulkAll elems + uptoBulkAll spare + 1
  | .agg parts => uptoBulkAll parts + 1
  | .iface _ d => uptoBulk d + 1
  | .map entries => uptoBulkEntries entries + 1
  | .held _ => 1
def uptoBulkAll {H : Type} : List (DataW H) → Nat
  | [] => 0
  | d :: r => uptoBulk d + uptoBulkAll r
def uptoBulkEntries {H : Type} : List (Lit × DataW H) → Nat
  | [] => 0
  | x :: r => uptoBulkEntry x + uptoBulkEntries r
def uptoBulkEntry {H : Type} : Lit × DataW H → Nat
  | (.string bytes, d) => bytes.length + uptoBulk d + 1
  | (_, d) => uptoBulk d + 1
 end
def uptoSmall : (H : Type) → List (DataW H) → Bool := fun _ ds => decide (uptoBulkAll ds ≤ 1048576)
def OpenSpec.upto (s : _root_.Go.ChangeSpec) : _root_.Go.OpenSpec := { _root_.Go.OpenSpec.ofChange s with cond := some uptoSmall }

/-- 'laws.FnExactPutCost', WHERE WHAT IT READS IS OF BULK AT MOST 1048576: true; the input reads as it did. -/
def fnExactPutCostUptoRow : OpenClaim := { program := "ytbdjconojnjgdaa", sum := "6ad444a223fd1bf8cf439808afa1ae835d619d0eaad683284ef67ff4502b8c82", func := "loop.example/g01618/laws.FnExactPutCost", spec := "fnExactPutCost", unfollowed := true, recurses := true, apart := false, narrowed := true }
def FnExactPutCostUptoSaid : Prop := fnExactPutCostUptoRow.holds Try.pinned (OpenSpec.upto fnExactPutCostSpec)

/-- 'laws.FnExactGetCost', WHERE WHAT IT READS IS OF BULK AT MOST 1048576: true; the input reads as it did. -/
def fnExactGetCostUptoRow : OpenClaim := { program := "ytbdjconojnjgdaa", sum := "6ad444a223fd1bf8cf439808afa1ae835d619d0eaad683284ef67ff4502b8c82", func := "loop.example/g01618/laws.FnExactGetCost", spec := "fnExactGetCost", unfollowed := true, recurses := true, apart := false, narrowed := true }
def FnExactGetCostUptoSaid : Prop := fnExactGetCostUptoRow.holds Try.pinned (OpenSpec.upto fnExactGetCostSpec)

/-- 'laws.FnExactTreeText', WHERE WHAT IT READS IS OF BULK AT MOST 1048576: true; the input reads as it did. -/
def fnExactTreeTextUptoRow : OpenClaim := { program := "ytbdjconojnjgdaa", sum := "6ad444a223fd1bf8cf439808afa1ae835d619d0eaad683284ef67ff4502b8c82", func := "loop.example/g01618/laws.FnExactTreeText", spec := "fnExactTreeText", inPlace := ["internal/abi.NoEscape", "internal/bytealg.MakeNoZero"], recurses := true, apart := false, narrowed := true }
def FnExactTreeTextUptoSaid : Prop := fnExactTreeTextUptoRow.holds Try.pinned (OpenSpec.upto fnExactTreeTextSpec)

/-- 'laws.FnExactReadTree', WHERE WHAT IT READS IS OF BULK AT MOST 1048576: true; the input reads as it did. -/
def fnExactReadTreeUptoRow : OpenClaim := { program := "ytbdjconojnjgdaa", sum := "6ad444a223fd1bf8cf439808afa1ae835d619d0eaad683284ef67ff4502b8c82", func := "loop.example/g01618/laws.FnExactReadTree", spec := "fnExactReadTree", inPlace := ["internal/bytealg.IndexByteString", "internal/bytealg.IndexString", "internal/abi.NoEscape", "internal/bytealg.MakeNoZero"], recurses := true, named := ["internal/bytealg.MaxLen"], apart := false, narrowed := true }
def FnExactReadTreeUptoSaid : Prop := fnExactReadTreeUptoRow.holds Try.pinned (OpenSpec.upto fnExactReadTreeSpec)

/-- 'laws.FnExactPostOrder', WHERE WHAT IT READS IS OF BULK AT MOST 1048576: true; the input reads as it did. -/
def fnExactPostOrderUptoRow : OpenClaim := { program := "ytbdjconojnjgdaa", sum := "6ad444a223fd1bf8cf439808afa1ae835d619d0eaad683284ef67ff4502b8c82", func := "loop.example/g01618/laws.FnExactPostOrder", spec := "fnExactPostOrder", unfollowed := true, recurses := true, apart := false, narrowed := true }
def FnExactPostOrderUptoSaid : Prop := fnExactPostOrderUptoRow.holds Try.pinned (OpenSpec.upto fnExactPostOrderSpec)

/-- 'laws.FnExactRankOf', WHERE WHAT IT READS IS OF BULK AT MOST 1048576: true; the input reads as it did. -/
def fnExactRankOfUptoRow : OpenClaim := { program := "ytbdjconojnjgdaa", sum := "6ad444a223fd1bf8cf439808afa1ae835d619d0eaad683284ef67ff4502b8c82", func := "loop.example/g01618/laws.FnExactRankOf", spec := "fnExactRankOf", unfollowed := true, recurses := true, apart := false, narrowed := true }
def FnExactRankOfUptoSaid : Prop := fnExactRankOfUptoRow.holds Try.pinned (OpenSpec.upto fnExactRankOfSpec)

/-- 'laws.FnIndex', WHERE WHAT IT READS IS OF BULK AT MOST 1048576: true; the input reads as it did. -/
def fnIndexUptoRow : OpenClaim := { program := "ytbdjconojnjgdaa", sum := "6ad444a223fd1bf8cf439808afa1ae835d619d0eaad683284ef67ff4502b8c82", func := "loop.example/g01618/laws.FnIndex", spec := "fnIndex", unfollowed := true, recurses := true, apart := false, narrowed := true }
def FnIndexUptoSaid : Prop := fnIndexUptoRow.holds Try.pinned (OpenSpec.upto fnIndexSpec)

/-- 'laws.FnExactLeftLeaf', WHERE WHAT IT READS IS OF BULK AT MOST 1048576: true; the input reads as it did. -/
def fnExactLeftLeafUptoRow : OpenClaim := { program := "ytbdjconojnjgdaa", sum := "6ad444a223fd1bf8cf439808afa1ae835d619d0eaad683284ef67ff4502b8c82", func := "loop.example/g01618/laws.FnExactLeftLeaf", spec := "fnExactLeftLeaf", unfollowed := true, recurses := true, apart := false, narrowed := true }
def FnExactLeftLeafUptoSaid : Prop := fnExactLeftLeafUptoRow.holds Try.pinned (OpenSpec.upto fnExactLeftLeafSpec)

/-- 'laws.FnBytes', WHERE WHAT IT READS IS OF BULK AT MOST 1048576: true; the input reads as it did. -/
def fnBytesUptoRow : OpenClaim := { program := "ytbdjconojnjgdaa", sum := "6ad444a223fd1bf8cf439808afa1ae835d619d0eaad683284ef67ff4502b8c82", func := "loop.example/g01618/laws.FnBytes", spec := "fnBytes", unfollowed := true, recurses := true, apart := false, narrowed := true }
def FnBytesUptoSaid : Prop := fnBytesUptoRow.holds Try.pinned (OpenSpec.upto fnBytesSpec)

end Rows
end Go.Proofs.Ytbdjconojnjgdaa
