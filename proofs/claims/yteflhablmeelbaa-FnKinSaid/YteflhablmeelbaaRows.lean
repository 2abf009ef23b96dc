/-
  No cell of these rows narrows 'for every input' (looked for: loops, veiled, ifaces, maps, wideKeys, modest, calm, conditions, laid).
  DERIVED. THE GIVEN ROWS OF THIS SEAT. 12 by the template 'for every input the law returns true; each argument reads behind the call as it read before'; 0 by the template 'total and deterministic' (their statements: YteflhablmeelbaaTotals.lean).
  GIVEN WITH THE SEED: the statements are not yours to turn. If you find one false, say at which input.
  Laid BY PROGRAM, IN A SANDBOX (cutbox-rows.mjs): the forced cells as the released guide's own fill.sh prints them over the translation fe0b87a22ee9ac67… (all of the seat's roots in one cut). By AI agents, Wed Nov 11 2026. No macro, syntax, notation, axiom, sorry.
-/
import Derived.Test.YteflhablmeelbaaChecked
import GoSem.Claim
import GoSem.ClaimJoined
import GoSem.ClaimMapViews
import Derived.JoinedTies
import Derived.KernelRfl
namespace Go.Proofs.Yteflhablmeelbaa
/- THE CELL 'sum', in the pinned program and in every row, IS THE sha256 OF THE DUMP (.gsa) THAT YteflhablmeelbaaProg.lean LOADS. Nothing in Lean hashes anything: it is a label: what it is worth is what the hold of that sum in a sandbox is worth. -/
noncomputable def Try.pinned : Pinned := { name := "yteflhablmeelbaa", sum := "fe0b87a22ee9ac67c169caf789e7775eb2dfc76668faee2f9b50842686a7c7b7", checked := Try.checked }
namespace Rows
def none {H : Type} : Left H := { results := [], args := [] }

/-- 'laws.FnExactLeavesOf': WHATEVER THE INPUT: true; the input reads as it did. -/
def fnExactLeavesOfSpec : ChangeSpec := { name := "fnExactLeavesOf", fn := fun _ => fun
  | [d] => { results := [.lit (.bool true)], args := [d] }
  | _ => none }
def fnExactLeavesOfRow : OpenClaim := { program := "yteflhablmeelbaa", sum := "fe0b87a22ee9ac67c169caf789e7775eb2dfc76668faee2f9b50842686a7c7b7", func := "loop.example/g01618/laws.FnExactLeavesOf", spec := "fnExactLeavesOf", apart := false }
def FnExactLeavesOfSaid : Prop := fnExactLeavesOfRow.holds Try.pinned (OpenSpec.ofChange fnExactLeavesOfSpec)

/-- ITS FALSE NEIGHBOUR: 'it returns false'. Refute it at one input. -/
def fnExactLeavesOfWrong : ChangeSpec := { name := "fnExactLeavesOf", fn := fun _ => fun
  | [d] => { results := [.lit (.bool false)], args := [d] }
  | _ => none }
def FnExactLeavesOfWrongFalsely : Prop := fnExactLeavesOfRow.holds Try.pinned (OpenSpec.ofChange fnExactLeavesOfWrong)

/-- 'laws.FnExactPutTree': WHATEVER THE INPUT: true; the input reads as it did. -/
def fnExactPutTreeSpec : ChangeSpec := { name := "fnExactPutTree", fn := fun _ => fun
  | [d] => { results := [.lit (.bool true)], args := [d] }
  | _ => none }
def fnExactPutTreeRow : OpenClaim := { program := "yteflhablmeelbaa", sum := "fe0b87a22ee9ac67c169caf789e7775eb2dfc76668faee2f9b50842686a7c7b7", func := "loop.example/g01618/laws.FnExactPutTree", spec := "fnExactPutTree", apart := false }
def FnExactPutTreeSaid : Prop := fnExactPutTreeRow.holds Try.pinned (OpenSpec.ofChange fnExactPutTreeSpec)

/-- ITS FALSE NEIGHBOUR: 'it returns false'. Refute it at one input. -/
def fnExactPutTreeWrong : ChangeSpec := { name := "fnExactPutTree", fn := fun _ => fun
  | [d] => { results := [.lit (.bool false)], args := [d] }
  | _ => none }
def FnExactPutTreeWrongFalsely : Prop := fnExactPutTreeRow.holds Try.pinned (OpenSpec.ofChange fnExactPutTreeWrong)

/-- 'laws.FnExactDelCost': WHATEVER THE INPUT: true; the input reads as it did. -/
def fnExactDelCostSpec : ChangeSpec := { name := "fnExactDelCost", fn := fun _ => fun
  | [d1, d2] => { results := [.lit (.bool true)], args := [d1, d2] }
  | _ => none }
def fnExactDelCostRow : OpenClaim := { program := "yteflhablmeelbaa", sum := "fe0b87a22ee9ac67c169caf789e7775eb2dfc76668faee2f9b50842686a7c7b7", func := "loop.example/g01618/laws.FnExactDelCost", spec := "fnExactDelCost", unfollowed := true, recurses := true, apart := false }
def FnExactDelCostSaid : Prop := fnExactDelCostRow.holds Try.pinned (OpenSpec.ofChange fnExactDelCostSpec)

/-- ITS FALSE NEIGHBOUR: 'it returns false'. Refute it at one input. -/
def fnExactDelCostWrong : ChangeSpec := { name := "fnExactDelCost", fn := fun _ => fun
  | [d1, d2] => { results := [.lit (.bool false)], args := [d1, d2] }
  | _ => none }
def FnExactDelCostWrongFalsely : Prop := fnExactDelCostRow.holds Try.pinned (OpenSpec.ofChange fnExactDelCostWrong)

/-- 'laws.FnExactInsCost': WHATEVER THE INPUT: true; the input reads as it did. -/
def fnExactInsCostSpec : ChangeSpec := { name := "fnExactInsCost", fn := fun _ => fun
  | [d1, d2] => { results := [.lit (.bool true)], args := [d1, d2] }
  | _ => none }
def fnExactInsCostRow : OpenClaim := { program := "yteflhablmeelbaa", sum := "fe0b87a22ee9ac67c169caf789e7775eb2dfc76668faee2f9b50842686a7c7b7", func := "loop.example/g01618/laws.FnExactInsCost", spec := "fnExactInsCost", unfollowed := true, recurses := true, apart := false }
def FnExactInsCostSaid : Prop := fnExactInsCostRow.holds Try.pinned (OpenSpec.ofChange fnExactInsCostSpec)

/-- ITS FALSE NEIGHBOUR: 'it returns false'. Refute it at one input. -/
def fnExactInsCostWrong : ChangeSpec := { name := "fnExactInsCost", fn := fun _ => fun
  | [d1, d2] => { results := [.lit (.bool false)], args := [d1, d2] }
  | _ => none }
def FnExactInsCostWrongFalsely : Prop := fnExactInsCostRow.holds Try.pinned (OpenSpec.ofChange fnExactInsCostWrong)

/-- 'laws.FnExactRelCost': WHATEVER THE INPUT: true; the input reads as it did. -/
def fnExactRelCostSpec : ChangeSpec := { name := "fnExactRelCost", fn := fun _ => fun
  | [d1, d2, d3] => { results := [.lit (.bool true)], args := [d1, d2, d3] }
  | _ => none }
def fnExactRelCostRow : OpenClaim := { program := "yteflhablmeelbaa", sum := "fe0b87a22ee9ac67c169caf789e7775eb2dfc76668faee2f9b50842686a7c7b7", func := "loop.example/g01618/laws.FnExactRelCost", spec := "fnExactRelCost", unfollowed := true, recurses := true, apart := false }
def FnExactRelCostSaid : Prop := fnExactRelCostRow.holds Try.pinned (OpenSpec.ofChange fnExactRelCostSpec)

/-- ITS FALSE NEIGHBOUR: 'it returns false'. Refute it at one input. -/
def fnExactRelCostWrong : ChangeSpec := { name := "fnExactRelCost", fn := fun _ => fun
  | [d1, d2, d3] => { results := [.lit (.bool false)], args := [d1, d2, d3] }
  | _ => none }
def FnExactRelCostWrongFalsely : Prop := fnExactRelCostRow.holds Try.pinned (OpenSpec.ofChange fnExactRelCostWrong)

/-- 'laws.FnExactSubTree': WHATEVER THE INPUT: true; the input reads as it did. -/
def fnExactSubTreeSpec : ChangeSpec := { name := "fnExactSubTree", fn := fun _ => fun
  | [d1, d2] => { results := [.lit (.bool true)], args := [d1, d2] }
  | _ => none }
def fnExactSubTreeRow : OpenClaim := { program := "yteflhablmeelbaa", sum := "fe0b87a22ee9ac67c169caf789e7775eb2dfc76668faee2f9b50842686a7c7b7", func := "loop.example/g01618/laws.FnExactSubTree", spec := "fnExactSubTree", apart := false }
def FnExactSubTreeSaid : Prop := fnExactSubTreeRow.holds Try.pinned (OpenSpec.ofChange fnExactSubTreeSpec)

/-- ITS FALSE NEIGHBOUR: 'it returns false'. Refute it at one input. -/
def fnExactSubTreeWrong : ChangeSpec := { name := "fnExactSubTree", fn := fun _ => fun
  | [d1, d2] => { results := [.lit (.bool false)], args := [d1, d2] }
  | _ => none }
def FnExactSubTreeWrongFalsely : Prop := fnExactSubTreeRow.holds Try.pinned (OpenSpec.ofChange fnExactSubTreeWrong)

/-- 'laws.FnExactKidsOf': WHATEVER THE INPUT: true; the input reads as it did. -/
def fnExactKidsOfSpec : ChangeSpec := { name := "fnExactKidsOf", fn := fun _ => fun
  | [d1, d2] => { results := [.lit (.bool true)], args := [d1, d2] }
  | _ => none }
def fnExactKidsOfRow : OpenClaim := { program := "yteflhablmeelbaa", sum := "fe0b87a22ee9ac67c169caf789e7775eb2dfc76668faee2f9b50842686a7c7b7", func := "loop.example/g01618/laws.FnExactKidsOf", spec := "fnExactKidsOf", apart := false }
def FnExactKidsOfSaid : Prop := fnExactKidsOfRow.holds Try.pinned (OpenSpec.ofChange fnExactKidsOfSpec)

/-- ITS FALSE NEIGHBOUR: 'it returns false'. Refute it at one input. -/
def fnExactKidsOfWrong : ChangeSpec := { name := "fnExactKidsOf", fn := fun _ => fun
  | [d1, d2] => { results := [.lit (.bool false)], args := [d1, d2] }
  | _ => none }
def FnExactKidsOfWrongFalsely : Prop := fnExactKidsOfRow.holds Try.pinned (OpenSpec.ofChange fnExactKidsOfWrong)

/-- 'laws.FnExactKidRank': WHATEVER THE INPUT: true; the input reads as it did. -/
def fnExactKidRankSpec : ChangeSpec := { name := "fnExactKidRank", fn := fun _ => fun
  | [d1, d2] => { results := [.lit (.bool true)], args := [d1, d2] }
  | _ => none }
def fnExactKidRankRow : OpenClaim := { program := "yteflhablmeelbaa", sum := "fe0b87a22ee9ac67c169caf789e7775eb2dfc76668faee2f9b50842686a7c7b7", func := "loop.example/g01618/laws.FnExactKidRank", spec := "fnExactKidRank", apart := false }
def FnExactKidRankSaid : Prop := fnExactKidRankRow.holds Try.pinned (OpenSpec.ofChange fnExactKidRankSpec)

/-- ITS FALSE NEIGHBOUR: 'it returns false'. Refute it at one input. -/
def fnExactKidRankWrong : ChangeSpec := { name := "fnExactKidRank", fn := fun _ => fun
  | [d1, d2] => { results := [.lit (.bool false)], args := [d1, d2] }
  | _ => none }
def FnExactKidRankWrongFalsely : Prop := fnExactKidRankRow.holds Try.pinned (OpenSpec.ofChange fnExactKidRankWrong)

/-- 'laws.FnKids': WHATEVER THE INPUT: true; the input reads as it did. -/
def fnKidsSpec : ChangeSpec := { name := "fnKids", fn := fun _ => fun
  | [d] => { results := [.lit (.bool true)], args := [d] }
  | _ => none }
def fnKidsRow : OpenClaim := { program := "yteflhablmeelbaa", sum := "fe0b87a22ee9ac67c169caf789e7775eb2dfc76668faee2f9b50842686a7c7b7", func := "loop.example/g01618/laws.FnKids", spec := "fnKids", apart := false }
def FnKidsSaid : Prop := fnKidsRow.holds Try.pinned (OpenSpec.ofChange fnKidsSpec)

/-- ITS FALSE NEIGHBOUR: 'it returns false'. Refute it at one input. -/
def fnKidsWrong : ChangeSpec := { name := "fnKids", fn := fun _ => fun
  | [d] => { results := [.lit (.bool false)], args := [d] }
  | _ => none }
def FnKidsWrongFalsely : Prop := fnKidsRow.holds Try.pinned (OpenSpec.ofChange fnKidsWrong)

/-- 'laws.FnCosts': WHATEVER THE INPUT: true; the input reads as it did. -/
def fnCostsSpec : ChangeSpec := { name := "fnCosts", fn := fun _ => fun
  | [d] => { results := [.lit (.bool true)], args := [d] }
  | _ => none }
def fnCostsRow : OpenClaim := { program := "yteflhablmeelbaa", sum := "fe0b87a22ee9ac67c169caf789e7775eb2dfc76668faee2f9b50842686a7c7b7", func := "loop.example/g01618/laws.FnCosts", spec := "fnCosts", unfollowed := true, recurses := true, apart := false }
def FnCostsSaid : Prop := fnCostsRow.holds Try.pinned (OpenSpec.ofChange fnCostsSpec)

/-- ITS FALSE NEIGHBOUR: 'it returns false'. Refute it at one input. -/
def fnCostsWrong : ChangeSpec := { name := "fnCosts", fn := fun _ => fun
  | [d] => { results := [.lit (.bool false)], args := [d] }
  | _ => none }
def FnCostsWrongFalsely : Prop := fnCostsRow.holds Try.pinned (OpenSpec.ofChange fnCostsWrong)

/-- 'laws.FnExactGetTree': WHATEVER THE INPUT: true; the input reads as it did. -/
def fnExactGetTreeSpec : ChangeSpec := { name := "fnExactGetTree", fn := fun _ => fun
  | [d] => { results := [.lit (.bool true)], args := [d] }
  | _ => none }
def fnExactGetTreeRow : OpenClaim := { program := "yteflhablmeelbaa", sum := "fe0b87a22ee9ac67c169caf789e7775eb2dfc76668faee2f9b50842686a7c7b7", func := "loop.example/g01618/laws.FnExactGetTree", spec := "fnExactGetTree", apart := false }
def FnExactGetTreeSaid : Prop := fnExactGetTreeRow.holds Try.pinned (OpenSpec.ofChange fnExactGetTreeSpec)

/-- ITS FALSE NEIGHBOUR: 'it returns false'. Refute it at one input. -/
def fnExactGetTreeWrong : ChangeSpec := { name := "fnExactGetTree", fn := fun _ => fun
  | [d] => { results := [.lit (.bool false)], args := [d] }
  | _ => none }
def FnExactGetTreeWrongFalsely : Prop := fnExactGetTreeRow.holds Try.pinned (OpenSpec.ofChange fnExactGetTreeWrong)

/-- 'laws.FnKin': WHATEVER THE INPUT: true; the input reads as it did. -/
def fnKinSpec : ChangeSpec := { name := "fnKin", fn := fun _ => fun
  | [d] => { results := [.lit (.bool true)], args := [d] }
  | _ => none }
def fnKinRow : OpenClaim := { program := "yteflhablmeelbaa", sum := "fe0b87a22ee9ac67c169caf789e7775eb2dfc76668faee2f9b50842686a7c7b7", func := "loop.example/g01618/laws.FnKin", spec := "fnKin", apart := false }
def FnKinSaid : Prop := fnKinRow.holds Try.pinned (OpenSpec.ofChange fnKinSpec)

/-- ITS FALSE NEIGHBOUR: 'it returns false'. Refute it at one input. -/
def fnKinWrong : ChangeSpec := { name := "fnKin", fn := fun _ => fun
  | [d] => { results := [.lit (.bool false)], args := [d] }
  | _ => none }
def FnKinWrongFalsely : Prop := fnKinRow.holds Try.pinned (OpenSpec.ofChange fnKinWrong)

/- THE SECOND FORM. 'bulk': how many values and letters a reading holds, each counted each time it is reached (what is shared counts as often as it is met; a slice's spare places count too). A statement '..UptoSaid' is the law's where the arguments, and the package variables that the reading takes, are together of bulk at most 1048576: NARROWER than '..Said'. Prove '..Said' where nothing that the law and all that it calls make is longer than what came in: it says more and counts as full. Else prove '..UptoSaid'. A law counts once. -/
mutual
def uptoBulk {H : Type} : DataW H → Nat
  | .lit (.string bytes) => bytes.length + 1
  | .lit _ => 1
  | .nil => 1
  | .ptr d => uptoBulk d + 1
  | .slice elems spare => uptoBulkAll elems + uptoBulkAll spare + 1
  | .agg parts => uptoBulkAll parts + 1
  | .iface _ d => uptoBulk d + 1
  | .map entries => uptoBulkEntries entries + 1
  | .held _ => 1
def uptoBulkAll {H : Type} : List (DataW H) → Nat
  | [] => 0
  | d :: r => uptoBulk d + uptoBulkAll r
def uptoBulkEntries {H : Type} : List (Lit × DataW H) → Nat
  | [] => 0
  | x :: r => uptoBulkEntry x + uptoBulkEntries r
def uptoBulkEntry {H : Type} : Lit × DataW H → Nat
  | (.string bytes, d) => bytes.length + uptoBulk d + 1
  | (_, d) => uptoBulk d + 1
 end
def uptoSmall : (H : Type) → List (DataW H) → Bool := fun _ ds => decide (uptoBulkAll ds ≤ 1048576)
def OpenSpec.upto (s : _root_.Go.ChangeSpec) : _root_.Go.OpenSpec := { _root_.Go.OpenSpec.ofChange s with cond := some uptoSmall }

/-- 'laws.FnExactLeavesOf', WHERE WHAT IT READS IS OF BULK AT MOST 1048576: true; the input reads as it did. -/
def fnExactLeavesOfUptoRow : OpenClaim := { program := "yteflhablmeelbaa", sum := "fe0b87a22ee9ac67c169caf789e7775eb2dfc76668faee2f9b50842686a7c7b7", func := "loop.example/g01618/laws.FnExactLeavesOf", spec := "fnExactLeavesOf", apart := false, narrowed := true }
def FnExactLeavesOfUptoSaid : Prop := fnExactLeavesOfUptoRow.holds Try.pinned (OpenSpec.upto fnExactLeavesOfSpec)

/-- 'laws.FnExactPutTree', WHERE WHAT IT READS IS OF BULK AT MOST 1048576: true; the input reads as it did. -/
def fnExactPutTreeUptoRow : OpenClaim := { program := "yteflhablmeelbaa", sum := "fe0b87a22ee9ac67c169caf789e7775eb2dfc76668faee2f9b50842686a7c7b7", func := "loop.example/g01618/laws.FnExactPutTree", spec := "fnExactPutTree", apart := false, narrowed := true }
def FnExactPutTreeUptoSaid : Prop := fnExactPutTreeUptoRow.holds Try.pinned (OpenSpec.upto fnExactPutTreeSpec)

/-- 'laws.FnExactDelCost', WHERE WHAT IT READS IS OF BULK AT MOST 1048576: true; the input reads as it did. -/
def fnExactDelCostUptoRow : OpenClaim := { program := "yteflhablmeelbaa", sum := "fe0b87a22ee9ac67c169caf789e7775eb2dfc76668faee2f9b50842686a7c7b7", func := "loop.example/g01618/laws.FnExactDelCost", spec := "fnExactDelCost", unfollowed := true, recurses := true, apart := false, narrowed := true }
def FnExactDelCostUptoSaid : Prop := fnExactDelCostUptoRow.holds Try.pinned (OpenSpec.upto fnExactDelCostSpec)

/-- 'laws.FnExactInsCost', WHERE WHAT IT READS IS OF BULK AT MOST 1048576: true; the input reads as it did. -/
def fnExactInsCostUptoRow : OpenClaim := { program := "yteflhablmeelbaa", sum := "fe0b87a22ee9ac67c169caf789e7775eb2dfc76668faee2f9b50842686a7c7b7", func := "loop.example/g01618/laws.FnExactInsCost", spec := "fnExactInsCost", unfollowed := true, recurses := true, apart := false, narrowed := true }
def FnExactInsCostUptoSaid : Prop := fnExactInsCostUptoRow.holds Try.pinned (OpenSpec.upto fnExactInsCostSpec)

/-- 'laws.FnExactRelCost', WHERE WHAT IT READS IS OF BULK AT MOST 1048576: true; the input reads as it did. -/
def fnExactRelCostUptoRow : OpenClaim := { program := "yteflhablmeelbaa", sum := "fe0b87a22ee9ac67c169caf789e7775eb2dfc76668faee2f9b50842686a7c7b7", func := "loop.example/g01618/laws.FnExactRelCost", spec := "fnExactRelCost", unfollowed := true, recurses := true, apart := false, narrowed := true }
def FnExactRelCostUptoSaid : Prop := fnExactRelCostUptoRow.holds Try.pinned (OpenSpec.upto fnExactRelCostSpec)

/-- 'laws.FnExactSubTree', WHERE WHAT IT READS IS OF BULK AT MOST 1048576: true; the input reads as it did. -/
def fnExactSubTreeUptoRow : OpenClaim := { program := "yteflhablmeelbaa", sum := "fe0b87a22ee9ac67c169caf789e7775eb2dfc76668faee2f9b50842686a7c7b7", func := "loop.example/g01618/laws.FnExactSubTree", spec := "fnExactSubTree", apart := false, narrowed := true }
def FnExactSubTreeUptoSaid : Prop := fnExactSubTreeUptoRow.holds Try.pinned (OpenSpec.upto fnExactSubTreeSpec)

/-- 'laws.FnExactKidsOf', WHERE WHAT IT READS IS OF BULK AT MOST 1048576: true; the input reads as it did. -/
def fnExactKidsOfUptoRow : OpenClaim := { program := "yteflhablmeelbaa", sum := "fe0b87a22ee9ac67c169caf789e7775eb2dfc76668faee2f9b50842686a7c7b7", func := "loop.example/g01618/laws.FnExactKidsOf", spec := "fnExactKidsOf", apart := false, narrowed := true }
def FnExactKidsOfUptoSaid : Prop := fnExactKidsOfUptoRow.holds Try.pinned (OpenSpec.upto fnExactKidsOfSpec)

/-- 'laws.FnExactKidRank', WHERE WHAT IT READS IS OF BULK AT MOST 1048576: true; the input reads as it did. -/
def fnExactKidRankUptoRow : OpenClaim := { program := "yteflhablmeelbaa", sum := "fe0b87a22ee9ac67c169caf789e7775eb2dfc76668faee2f9b50842686a7c7b7", func := "loop.example/g01618/laws.FnExactKidRank", spec := "fnExactKidRank", apart := false, narrowed := true }
def FnExactKidRankUptoSaid : Prop := fnExactKidRankUptoRow.holds Try.pinned (OpenSpec.upto fnExactKidRankSpec)

/-- 'laws.FnKids', WHERE WHAT IT READS IS OF BULK AT MOST 1048576: true; the input reads as it did. -/
def fnKidsUptoRow : OpenClaim := { program := "yteflhablmeelbaa", sum := "fe0b87a22ee9ac67c169caf789e7775eb2dfc76668faee2f9b50842686a7c7b7", func := "loop.example/g01618/laws.FnKids", spec := "fnKids", apart := false, narrowed := true }
def FnKidsUptoSaid : Prop := fnKidsUptoRow.holds Try.pinned (OpenSpec.upto fnKidsSpec)

/-- 'laws.FnCosts', WHERE WHAT IT READS IS OF BULK AT MOST 1048576: true; the input reads as it did. -/
def fnCostsUptoRow : OpenClaim := { program := "yteflhablmeelbaa", sum := "fe0b87a22ee9ac67c169caf789e7775eb2dfc76668faee2f9b50842686a7c7b7", func := "loop.example/g01618/laws.FnCosts", spec := "fnCosts", unfollowed := true, recurses := true, apart := false, narrowed := true }
def FnCostsUptoSaid : Prop := fnCostsUptoRow.holds Try.pinned (OpenSpec.upto fnCostsSpec)

/-- 'laws.FnExactGetTree', WHERE WHAT IT READS IS OF BULK AT MOST 1048576: true; the input reads as it did. -/
def fnExactGetTreeUptoRow : OpenClaim := { program := "yteflhablmeelbaa", sum := "fe0b87a22ee9ac67c169caf789e7775eb2dfc76668faee2f9b50842686a7c7b7", func := "loop.example/g01618/laws.FnExactGetTree", spec := "fnExactGetTree", apart := false, narrowed := true }
def FnExactGetTreeUptoSaid : Prop := fnExactGetTreeUptoRow.holds Try.pinned (OpenSpec.upto fnExactGetTreeSpec)

/-- 'laws.FnKin', WHERE WHAT IT READS IS OF BULK AT MOST 1048576: true; the input reads as it did. -/
def fnKinUptoRow : OpenClaim := { program := "yteflhablmeelbaa", sum := "fe0b87a22ee9ac67c169caf789e7775eb2dfc76668faee2f9b50842686a7c7b7", func := "loop.example/g01618/laws.FnKin", spec := "fnKin", apart := false, narrowed := true }
def FnKinUptoSaid : Prop := fnKinUptoRow.holds Try.pinned (OpenSpec.upto fnKinSpec)

end Rows
end Go.Proofs.Yteflhablmeelbaa
