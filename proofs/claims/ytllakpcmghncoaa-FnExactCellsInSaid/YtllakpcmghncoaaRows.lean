/-
  No cell of these rows narrows 'for every input' (looked for: loops, veiled, ifaces, maps, wideKeys, modest, calm, conditions, laid).
  DERIVED. THE GIVEN ROWS OF THIS SEAT. 12 by the template 'for every input the law returns true; each argument reads behind the call as it read before'; 0 by the template 'total and deterministic' (their statements: YtllakpcmghncoaaTotals.lean).
  GIVEN WITH THE SEED: the statements are not yours to turn. If you find one false, say at which input.
  Laid BY PROGRAM, IN A SANDBOX (cutbox-rows.mjs): the forced cells as the released guide's own fill.sh prints them over the translation 2fad8344011c84da… (all of the seat's roots in one cut). By AI agents, Wed Nov 11 2026. No macro, syntax, notation, axiom, sorry.
-/
import Derived.Test.YtllakpcmghncoaaChecked
import GoSem.Claim
import GoSem.ClaimJoined
import GoSem.ClaimMapViews
import Derived.JoinedTies
import Derived.KernelRfl
namespace Go.Proofs.Ytllakpcmghncoaa
/- THE CELL 'sum', in the pinned program and in every row, IS THE sha256 OF THE DUMP (.gsa) THAT YtllakpcmghncoaaProg.lean LOADS. Nothing in Lean hashes anything: it is a label: what it is worth is what the hold of that sum in a sandbox is worth. -/
noncomputable def Try.pinned : Pinned := { name := "ytllakpcmghncoaa", sum := "2fad8344011c84daac03c5fddf2739474fb559b37ac4bc71ae8c2e2458433541", checked := Try.checked }
namespace Rows
def none {H : Type} : Left H := { results := [], args := [] }

/-- 'laws.FnExactConstants': WHATEVER THE INPUT: true; the input reads as it did. -/
def fnExactConstantsSpec : ChangeSpec := { name := "fnExactConstants", fn := fun _ => fun
  | [] => { results := [.lit (.bool true)], args := [] }
  | _ => none }
def fnExactConstantsRow : OpenClaim := { program := "ytllakpcmghncoaa", sum := "2fad8344011c84daac03c5fddf2739474fb559b37ac4bc71ae8c2e2458433541", func := "loop.example/g01618/laws.FnExactConstants", spec := "fnExactConstants", apart := false }
def FnExactConstantsSaid : Prop := fnExactConstantsRow.holds Try.pinned (OpenSpec.ofChange fnExactConstantsSpec)

/-- ITS FALSE NEIGHBOUR: 'it returns false'. Refute it at one input. -/
def fnExactConstantsWrong : ChangeSpec := { name := "fnExactConstants", fn := fun _ => fun
  | [] => { results := [.lit (.bool false)], args := [] }
  | _ => none }
def FnExactConstantsWrongFalsely : Prop := fnExactConstantsRow.holds Try.pinned (OpenSpec.ofChange fnExactConstantsWrong)

/-- 'laws.FnExactLabelOk': WHATEVER THE INPUT: true; the input reads as it did. -/
def fnExactLabelOkSpec : ChangeSpec := { name := "fnExactLabelOk", fn := fun _ => fun
  | [d] => { results := [.lit (.bool true)], args := [d] }
  | _ => none }
def fnExactLabelOkRow : OpenClaim := { program := "ytllakpcmghncoaa", sum := "2fad8344011c84daac03c5fddf2739474fb559b37ac4bc71ae8c2e2458433541", func := "loop.example/g01618/laws.FnExactLabelOk", spec := "fnExactLabelOk", apart := false }
def FnExactLabelOkSaid : Prop := fnExactLabelOkRow.holds Try.pinned (OpenSpec.ofChange fnExactLabelOkSpec)

/-- ITS FALSE NEIGHBOUR: 'it returns false'. Refute it at one input. -/
def fnExactLabelOkWrong : ChangeSpec := { name := "fnExactLabelOk", fn := fun _ => fun
  | [d] => { results := [.lit (.bool false)], args := [d] }
  | _ => none }
def FnExactLabelOkWrongFalsely : Prop := fnExactLabelOkRow.holds Try.pinned (OpenSpec.ofChange fnExactLabelOkWrong)

/-- 'laws.FnExactHex': WHATEVER THE INPUT: true; the input reads as it did. -/
def fnExactHexSpec : ChangeSpec := { name := "fnExactHex", fn := fun _ => fun
  | [d] => { results := [.lit (.bool true)], args := [d] }
  | _ => none }
def fnExactHexRow : OpenClaim := { program := "ytllakpcmghncoaa", sum := "2fad8344011c84daac03c5fddf2739474fb559b37ac4bc71ae8c2e2458433541", func := "loop.example/g01618/laws.FnExactHex", spec := "fnExactHex", apart := false }
def FnExactHexSaid : Prop := fnExactHexRow.holds Try.pinned (OpenSpec.ofChange fnExactHexSpec)

/-- ITS FALSE NEIGHBOUR: 'it returns false'. Refute it at one input. -/
def fnExactHexWrong : ChangeSpec := { name := "fnExactHex", fn := fun _ => fun
  | [d] => { results := [.lit (.bool false)], args := [d] }
  | _ => none }
def FnExactHexWrongFalsely : Prop := fnExactHexRow.holds Try.pinned (OpenSpec.ofChange fnExactHexWrong)

/-- 'laws.FnExactTreeCode': WHATEVER THE INPUT: true; the input reads as it did. -/
def fnExactTreeCodeSpec : ChangeSpec := { name := "fnExactTreeCode", fn := fun _ => fun
  | [d] => { results := [.lit (.bool true)], args := [d] }
  | _ => none }
def fnExactTreeCodeRow : OpenClaim := { program := "ytllakpcmghncoaa", sum := "2fad8344011c84daac03c5fddf2739474fb559b37ac4bc71ae8c2e2458433541", func := "loop.example/g01618/laws.FnExactTreeCode", spec := "fnExactTreeCode", apart := false }
def FnExactTreeCodeSaid : Prop := fnExactTreeCodeRow.holds Try.pinned (OpenSpec.ofChange fnExactTreeCodeSpec)

/-- ITS FALSE NEIGHBOUR: 'it returns false'. Refute it at one input. -/
def fnExactTreeCodeWrong : ChangeSpec := { name := "fnExactTreeCode", fn := fun _ => fun
  | [d] => { results := [.lit (.bool false)], args := [d] }
  | _ => none }
def FnExactTreeCodeWrongFalsely : Prop := fnExactTreeCodeRow.holds Try.pinned (OpenSpec.ofChange fnExactTreeCodeWrong)

/-- 'laws.FnExactLabelName': WHATEVER THE INPUT: true; the input reads as it did. -/
def fnExactLabelNameSpec : ChangeSpec := { name := "fnExactLabelName", fn := fun _ => fun
  | [d] => { results := [.lit (.bool true)], args := [d] }
  | _ => none }
def fnExactLabelNameRow : OpenClaim := { program := "ytllakpcmghncoaa", sum := "2fad8344011c84daac03c5fddf2739474fb559b37ac4bc71ae8c2e2458433541", func := "loop.example/g01618/laws.FnExactLabelName", spec := "fnExactLabelName", apart := false }
def FnExactLabelNameSaid : Prop := fnExactLabelNameRow.holds Try.pinned (OpenSpec.ofChange fnExactLabelNameSpec)

/-- ITS FALSE NEIGHBOUR: 'it returns false'. Refute it at one input. -/
def fnExactLabelNameWrong : ChangeSpec := { name := "fnExactLabelName", fn := fun _ => fun
  | [d] => { results := [.lit (.bool false)], args := [d] }
  | _ => none }
def FnExactLabelNameWrongFalsely : Prop := fnExactLabelNameRow.holds Try.pinned (OpenSpec.ofChange fnExactLabelNameWrong)

/-- 'laws.FnExactCellsIn': WHATEVER THE INPUT: true; the input reads as it did. -/
def fnExactCellsInSpec : ChangeSpec := { name := "fnExactCellsIn", fn := fun _ => fun
  | [d1, d2] => { results := [.lit (.bool true)], args := [d1, d2] }
  | _ => none }
def fnExactCellsInRow : OpenClaim := { program := "ytllakpcmghncoaa", sum := "2fad8344011c84daac03c5fddf2739474fb559b37ac4bc71ae8c2e2458433541", func := "loop.example/g01618/laws.FnExactCellsIn", spec := "fnExactCellsIn", unfollowed := true, recurses := true, apart := false }
def FnExactCellsInSaid : Prop := fnExactCellsInRow.holds Try.pinned (OpenSpec.ofChange fnExactCellsInSpec)

/-- ITS FALSE NEIGHBOUR: 'it returns false'. Refute it at one input. -/
def fnExactCellsInWrong : ChangeSpec := { name := "fnExactCellsIn", fn := fun _ => fun
  | [d1, d2] => { results := [.lit (.bool false)], args := [d1, d2] }
  | _ => none }
def FnExactCellsInWrongFalsely : Prop := fnExactCellsInRow.holds Try.pinned (OpenSpec.ofChange fnExactCellsInWrong)

/-- 'laws.FnExactReadFixed': WHATEVER THE INPUT: true; the input reads as it did. -/
def fnExactReadFixedSpec : ChangeSpec := { name := "fnExactReadFixed", fn := fun _ => fun
  | [d1, d2] => { results := [.lit (.bool true)], args := [d1, d2] }
  | _ => none }
def fnExactReadFixedRow : OpenClaim := { program := "ytllakpcmghncoaa", sum := "2fad8344011c84daac03c5fddf2739474fb559b37ac4bc71ae8c2e2458433541", func := "loop.example/g01618/laws.FnExactReadFixed", spec := "fnExactReadFixed", apart := false }
def FnExactReadFixedSaid : Prop := fnExactReadFixedRow.holds Try.pinned (OpenSpec.ofChange fnExactReadFixedSpec)

/-- ITS FALSE NEIGHBOUR: 'it returns false'. Refute it at one input. -/
def fnExactReadFixedWrong : ChangeSpec := { name := "fnExactReadFixed", fn := fun _ => fun
  | [d1, d2] => { results := [.lit (.bool false)], args := [d1, d2] }
  | _ => none }
def FnExactReadFixedWrongFalsely : Prop := fnExactReadFixedRow.holds Try.pinned (OpenSpec.ofChange fnExactReadFixedWrong)

/-- 'laws.FnExactVar': WHATEVER THE INPUT: true; the input reads as it did. -/
def fnExactVarSpec : ChangeSpec := { name := "fnExactVar", fn := fun _ => fun
  | [d] => { results := [.lit (.bool true)], args := [d] }
  | _ => none }
def fnExactVarRow : OpenClaim := { program := "ytllakpcmghncoaa", sum := "2fad8344011c84daac03c5fddf2739474fb559b37ac4bc71ae8c2e2458433541", func := "loop.example/g01618/laws.FnExactVar", spec := "fnExactVar", apart := false }
def FnExactVarSaid : Prop := fnExactVarRow.holds Try.pinned (OpenSpec.ofChange fnExactVarSpec)

/-- ITS FALSE NEIGHBOUR: 'it returns false'. Refute it at one input. -/
def fnExactVarWrong : ChangeSpec := { name := "fnExactVar", fn := fun _ => fun
  | [d] => { results := [.lit (.bool false)], args := [d] }
  | _ => none }
def FnExactVarWrongFalsely : Prop := fnExactVarRow.holds Try.pinned (OpenSpec.ofChange fnExactVarWrong)

/-- 'laws.FnExactFixed': WHATEVER THE INPUT: true; the input reads as it did. -/
def fnExactFixedSpec : ChangeSpec := { name := "fnExactFixed", fn := fun _ => fun
  | [d1, d2] => { results := [.lit (.bool true)], args := [d1, d2] }
  | _ => none }
def fnExactFixedRow : OpenClaim := { program := "ytllakpcmghncoaa", sum := "2fad8344011c84daac03c5fddf2739474fb559b37ac4bc71ae8c2e2458433541", func := "loop.example/g01618/laws.FnExactFixed", spec := "fnExactFixed", apart := false }
def FnExactFixedSaid : Prop := fnExactFixedRow.holds Try.pinned (OpenSpec.ofChange fnExactFixedSpec)

/-- ITS FALSE NEIGHBOUR: 'it returns false'. Refute it at one input. -/
def fnExactFixedWrong : ChangeSpec := { name := "fnExactFixed", fn := fun _ => fun
  | [d1, d2] => { results := [.lit (.bool false)], args := [d1, d2] }
  | _ => none }
def FnExactFixedWrongFalsely : Prop := fnExactFixedRow.holds Try.pinned (OpenSpec.ofChange fnExactFixedWrong)

/-- 'laws.FnExactLabelOf': WHATEVER THE INPUT: true; the input reads as it did. -/
def fnExactLabelOfSpec : ChangeSpec := { name := "fnExactLabelOf", fn := fun _ => fun
  | [d] => { results := [.lit (.bool true)], args := [d] }
  | _ => none }
def fnExactLabelOfRow : OpenClaim := { program := "ytllakpcmghncoaa", sum := "2fad8344011c84daac03c5fddf2739474fb559b37ac4bc71ae8c2e2458433541", func := "loop.example/g01618/laws.FnExactLabelOf", spec := "fnExactLabelOf", apart := false }
def FnExactLabelOfSaid : Prop := fnExactLabelOfRow.holds Try.pinned (OpenSpec.ofChange fnExactLabelOfSpec)

/-- ITS FALSE NEIGHBOUR: 'it returns false'. Refute it at one input. -/
def fnExactLabelOfWrong : ChangeSpec := { name := "fnExactLabelOf", fn := fun _ => fun
  | [d] => { results := [.lit (.bool false)], args := [d] }
  | _ => none }
def FnExactLabelOfWrongFalsely : Prop := fnExactLabelOfRow.holds Try.pinned (OpenSpec.ofChange fnExactLabelOfWrong)

/-- 'laws.FnExactReadVar': WHATEVER THE INPUT: true; the input reads as it did. -/
def fnExactReadVarSpec : ChangeSpec := { name := "fnExactReadVar", fn := fun _ => fun
  | [d] => { results := [.lit (.bool true)], args := [d] }
  | _ => none }
def fnExactReadVarRow : OpenClaim := { program := "ytllakpcmghncoaa", sum := "2fad8344011c84daac03c5fddf2739474fb559b37ac4bc71ae8c2e2458433541", func := "loop.example/g01618/laws.FnExactReadVar", spec := "fnExactReadVar", apart := false }
def FnExactReadVarSaid : Prop := fnExactReadVarRow.holds Try.pinned (OpenSpec.ofChange fnExactReadVarSpec)

/-- ITS FALSE NEIGHBOUR: 'it returns false'. Refute it at one input. -/
def fnExactReadVarWrong : ChangeSpec := { name := "fnExactReadVar", fn := fun _ => fun
  | [d] => { results := [.lit (.bool false)], args := [d] }
  | _ => none }
def FnExactReadVarWrongFalsely : Prop := fnExactReadVarRow.holds Try.pinned (OpenSpec.ofChange fnExactReadVarWrong)

/-- 'laws.FnExactKeyRoots': WHATEVER THE INPUT: true; the input reads as it did. -/
def fnExactKeyRootsSpec : ChangeSpec := { name := "fnExactKeyRoots", fn := fun _ => fun
  | [d] => { results := [.lit (.bool true)], args := [d] }
  | _ => none }
def fnExactKeyRootsRow : OpenClaim := { program := "ytllakpcmghncoaa", sum := "2fad8344011c84daac03c5fddf2739474fb559b37ac4bc71ae8c2e2458433541", func := "loop.example/g01618/laws.FnExactKeyRoots", spec := "fnExactKeyRoots", unfollowed := true, recurses := true, apart := false }
def FnExactKeyRootsSaid : Prop := fnExactKeyRootsRow.holds Try.pinned (OpenSpec.ofChange fnExactKeyRootsSpec)

/-- ITS FALSE NEIGHBOUR: 'it returns false'. Refute it at one input. -/
def fnExactKeyRootsWrong : ChangeSpec := { name := "fnExactKeyRoots", fn := fun _ => fun
  | [d] => { results := [.lit (.bool false)], args := [d] }
  | _ => none }
def FnExactKeyRootsWrongFalsely : Prop := fnExactKeyRootsRow.holds Try.pinned (OpenSpec.ofChange fnExactKeyRootsWrong)

/- THE SECOND FORM. 'bulk': how many values and letters a reading holds, each counted each time it is reached (what is shared counts as often as it is met; a slice's spare places count too). A statement '..UptoSaid' is the law's where the arguments, and the package variables that the reading takes, are together of bulk at most 1048576: NARROWER than '..Said'. Prove '..Said' where nothing that the law and all that it calls make is longer than what came in: it says more and counts as full. Else prove '..UptoSaid'. A law counts once. -/
mutual
def uptoBulk {H : Type} : DataW H → Nat
  | .lit (.string bytes) => bytes.length + 1
  | .lit _ => 1
  | .nil => 1
  | .ptr d => uptoBulk d + 1
  | .slice elems spare => uptoBulkAll elems + uptoBulkAll spare + 1
  | .agg parts => uptoBulkAll parts + 1
  | .iface _ d => uptoBulk d + 1
  | .map entries => uptoBulkEntries entries + 1
  | .held _ => 1
def uptoBulkAll {H : Type} : List (DataW H) → Nat
  | [] => 0
  | d :: r => uptoBulk d + uptoBulkAll r
def uptoBulkEntries {H : Type} : List (Lit × DataW H) → Nat
  | [] => 0
  | x :: r => uptoBulkEntry x + uptoBulkEntries r
def uptoBulkEntry {H : Type} : Lit × DataW H → Nat
  | (.string bytes, d) => bytes.length + uptoBulk d + 1
  | (_, d) => uptoBulk d + 1
 end
def uptoSmall : (H : Type) → List (DataW H) → Bool := fun _ ds => decide (uptoBulkAll ds ≤ 1048576)
def OpenSpec.upto (s : _root_.Go.ChangeSpec) : _root_.Go.OpenSpec := { _root_.Go.OpenSpec.ofChange s with cond := some uptoSmall }

/-- 'laws.FnExactConstants', WHERE WHAT IT READS IS OF BULK AT MOST 1048576: true; the input reads as it did. -/
def fnExactConstantsUptoRow : OpenClaim := { program := "ytllakpcmghncoaa", sum := "2fad8344011c84daac03c5fddf2739474fb559b37ac4bc71ae8c2e2458433541", func := "loop.example/g01618/laws.FnExactConstants", spec := "fnExactConstants", apart := false, narrowed := true }
def FnExactConstantsUptoSaid : Prop := fnExactConstantsUptoRow.holds Try.pinned (OpenSpec.upto fnExactConstantsSpec)

/-- 'laws.FnExactLabelOk', WHERE WHAT IT READS IS OF BULK AT MOST 1048576: true; the input reads as it did. -/
def fnExactLabelOkUptoRow : OpenClaim := { program := "ytllakpcmghncoaa", sum := "2fad8344011c84daac03c5fddf2739474fb559b37ac4bc71ae8c2e2458433541", func := "loop.example/g01618/laws.FnExactLabelOk", spec := "fnExactLabelOk", apart := false, narrowed := true }
def FnExactLabelOkUptoSaid : Prop := fnExactLabelOkUptoRow.holds Try.pinned (OpenSpec.upto fnExactLabelOkSpec)

/-- 'laws.FnExactHex', WHERE WHAT IT READS IS OF BULK AT MOST 1048576: true; the input reads as it did. -/
def fnExactHexUptoRow : OpenClaim := { program := "ytllakpcmghncoaa", sum := "2fad8344011c84daac03c5fddf2739474fb559b37ac4bc71ae8c2e2458433541", func := "loop.example/g01618/laws.FnExactHex", spec := "fnExactHex", apart := false, narrowed := true }
def FnExactHexUptoSaid : Prop := fnExactHexUptoRow.holds Try.pinned (OpenSpec.upto fnExactHexSpec)

/-- 'laws.FnExactTreeCode', WHERE WHAT IT READS IS OF BULK AT MOST 1048576: true; the input reads as it did. -/
def fnExactTreeCodeUptoRow : OpenClaim := { program := "ytllakpcmghncoaa", sum := "2fad8344011c84daac03c5fddf2739474fb559b37ac4bc71ae8c2e2458433541", func := "loop.example/g01618/laws.FnExactTreeCode", spec := "fnExactTreeCode", apart := false, narrowed := true }
def FnExactTreeCodeUptoSaid : Prop := fnExactTreeCodeUptoRow.holds Try.pinned (OpenSpec.upto fnExactTreeCodeSpec)

/-- 'laws.FnExactLabelName', WHERE WHAT IT READS IS OF BULK AT MOST 1048576: true; the input reads as it did. -/
def fnExactLabelNameUptoRow : OpenClaim := { program := "ytllakpcmghncoaa", sum := "2fad8344011c84daac03c5fddf2739474fb559b37ac4bc71ae8c2e2458433541", func := "loop.example/g01618/laws.FnExactLabelName", spec := "fnExactLabelName", apart := false, narrowed := true }
def FnExactLabelNameUptoSaid : Prop := fnExactLabelNameUptoRow.holds Try.pinned (OpenSpec.upto fnExactLabelNameSpec)

/-- 'laws.FnExactCellsIn', WHERE WHAT IT READS IS OF BULK AT MOST 1048576: true; the input reads as it did. -/
def fnExactCellsInUptoRow : OpenClaim := { program := "ytllakpcmghncoaa", sum := "2fad8344011c84daac03c5fddf2739474fb559b37ac4bc71ae8c2e2458433541", func := "loop.example/g01618/laws.FnExactCellsIn", spec := "fnExactCellsIn", unfollowed := true, recurses := true, apart := false, narrowed := true }
def FnExactCellsInUptoSaid : Prop := fnExactCellsInUptoRow.holds Try.pinned (OpenSpec.upto fnExactCellsInSpec)

/-- 'laws.FnExactReadFixed', WHERE WHAT IT READS IS OF BULK AT MOST 1048576: true; the input reads as it did. -/
def fnExactReadFixedUptoRow : OpenClaim := { program := "ytllakpcmghncoaa", sum := "2fad8344011c84daac03c5fddf2739474fb559b37ac4bc71ae8c2e2458433541", func := "loop.example/g01618/laws.FnExactReadFixed", spec := "fnExactReadFixed", apart := false, narrowed := true }
def FnExactReadFixedUptoSaid : Prop := fnExactReadFixedUptoRow.holds Try.pinned (OpenSpec.upto fnExactReadFixedSpec)

/-- 'laws.FnExactVar', WHERE WHAT IT READS IS OF BULK AT MOST 1048576: true; the input reads as it did. -/
def fnExactVarUptoRow : OpenClaim := { program := "ytllakpcmghncoaa", sum := "2fad8344011c84daac03c5fddf2739474fb559b37ac4bc71ae8c2e2458433541", func := "loop.example/g01618/laws.FnExactVar", spec := "fnExactVar", apart := false, narrowed := true }
def FnExactVarUptoSaid : Prop := fnExactVarUptoRow.holds Try.pinned (OpenSpec.upto fnExactVarSpec)

/-- 'laws.FnExactFixed', WHERE WHAT IT READS IS OF BULK AT MOST 1048576: true; the input reads as it did. -/
def fnExactFixedUptoRow : OpenClaim := { program := "ytllakpcmghncoaa", sum := "2fad8344011c84daac03c5fddf2739474fb559b37ac4bc71ae8c2e2458433541", func := "loop.example/g01618/laws.FnExactFixed", spec := "fnExactFixed", apart := false, narrowed := true }
def FnExactFixedUptoSaid : Prop := fnExactFixedUptoRow.holds Try.pinned (OpenSpec.upto fnExactFixedSpec)

/-- 'laws.FnExactLabelOf', WHERE WHAT IT READS IS OF BULK AT MOST 1048576: true; the input reads as it did. -/
def fnExactLabelOfUptoRow : OpenClaim := { program := "ytllakpcmghncoaa", sum := "2fad8344011c84daac03c5fddf2739474fb559b37ac4bc71ae8c2e2458433541", func := "loop.example/g01618/laws.FnExactLabelOf", spec := "fnExactLabelOf", apart := false, narrowed := true }
def FnExactLabelOfUptoSaid : Prop := fnExactLabelOfUptoRow.holds Try.pinned (OpenSpec.upto fnExactLabelOfSpec)

/-- 'laws.FnExactReadVar', WHERE WHAT IT READS IS OF BULK AT MOST 1048576: true; the input reads as it did. -/
def fnExactReadVarUptoRow : OpenClaim := { program := "ytllakpcmghncoaa", sum := "2fad8344011c84daac03c5fddf2739474fb559b37ac4bc71ae8c2e2458433541", func := "loop.example/g01618/laws.FnExactReadVar", spec := "fnExactReadVar", apart := false, narrowed := true }
def FnExactReadVarUptoSaid : Prop := fnExactReadVarUptoRow.holds Try.pinned (OpenSpec.upto fnExactReadVarSpec)

/-- 'laws.FnExactKeyRoots', WHERE WHAT IT READS IS OF BULK AT MOST 1048576: true; the input reads as it did. -/
def fnExactKeyRootsUptoRow : OpenClaim := { program := "ytllakpcmghncoaa", sum := "2fad8344011c84daac03c5fddf2739474fb559b37ac4bc71ae8c2e2458433541", func := "loop.example/g01618/laws.FnExactKeyRoots", spec := "fnExactKeyRoots", unfollowed := true, recurses := true, apart := false, narrowed := true }
def FnExactKeyRootsUptoSaid : Prop := fnExactKeyRootsUptoRow.holds Try.pinned (OpenSpec.upto fnExactKeyRootsSpec)

end Rows
end Go.Proofs.Ytllakpcmghncoaa
