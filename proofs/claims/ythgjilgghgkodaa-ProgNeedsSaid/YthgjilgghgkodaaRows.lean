/-
  No cell of these rows narrows 'for every input' (looked for: loops, veiled, ifaces, maps, wideKeys, modest, calm, conditions, laid).
  DERIVED. THE GIVEN ROWS OF THIS SEAT. 11 by the template 'for every input the law returns true; each argument reads behind the call as it read before'; 0 by the template 'total and deterministic' (their statements: YthgjilgghgkodaaTotals.lean).
  GIVEN WITH THE SEED: the statements are not yours to turn. If you find one false, say at which input.
  Laid BY PROGRAM, IN A SANDBOX (cutbox-rows.mjs): the forced cells as the released guide's own fill.sh prints them over the translation 56829e6c7d30cccd… (all of the seat's roots in one cut). By AI agents, Wed Nov 11 2026. No macro, syntax, notation, axiom, sorry.
-/
import Derived.Test.YthgjilgghgkodaaChecked
import GoSem.Claim
import GoSem.ClaimJoined
import GoSem.ClaimMapViews
import Derived.JoinedTies
import Derived.KernelRfl
namespace Go.Proofs.Ythgjilgghgkodaa
/- THE CELL 'sum', in the pinned program and in every row, IS THE sha256 OF THE DUMP (.gsa) THAT YthgjilgghgkodaaProg.lean LOADS. Nothing in Lean hashes anything: it is a label: what it is worth is what the hold of that sum in a sandbox is worth. -/
noncomputable def Try.pinned : Pinned := { name := "ythgjilgghgkodaa", sum := "56829e6c7d30cccdd1a740770d1a5b30d4283ad9e0393d322dfcb92ecfb2f38f", checked := Try.checked }
namespace Rows
def none {H : Type} : Left H := { results := [], args := [] }

/-- 'treillagelaw.LatTells': WHATEVER THE INPUT: true; the input reads as it did. -/
def latTellsSpec : ChangeSpec := { name := "latTells", fn := fun _ => fun
  | [d1, d2, d3] => { results := [.lit (.bool true)], args := [d1, d2, d3] }
  | _ => none }
def latTellsRow : OpenClaim := { program := "ythgjilgghgkodaa", sum := "56829e6c7d30cccdd1a740770d1a5b30d4283ad9e0393d322dfcb92ecfb2f38f", func := "treillage/treillagelaw.LatTells", spec := "latTells", unfollowed := true, recurses := true, apart := false }
def LatTellsSaid : Prop := latTellsRow.holds Try.pinned (OpenSpec.ofChange latTellsSpec)

/-- ITS FALSE NEIGHBOUR: 'it returns false'. Refute it at one input. -/
def latTellsWrong : ChangeSpec := { name := "latTells", fn := fun _ => fun
  | [d1, d2, d3] => { results := [.lit (.bool false)], args := [d1, d2, d3] }
  | _ => none }
def LatTellsWrongFalsely : Prop := latTellsRow.holds Try.pinned (OpenSpec.ofChange latTellsWrong)

/-- 'treillagelaw.LatLifts': WHATEVER THE INPUT: true; the input reads as it did. -/
def latLiftsSpec : ChangeSpec := { name := "latLifts", fn := fun _ => fun
  | [d1, d2, d3] => { results := [.lit (.bool true)], args := [d1, d2, d3] }
  | _ => none }
def latLiftsRow : OpenClaim := { program := "ythgjilgghgkodaa", sum := "56829e6c7d30cccdd1a740770d1a5b30d4283ad9e0393d322dfcb92ecfb2f38f", func := "treillage/treillagelaw.LatLifts", spec := "latLifts", unfollowed := true, recurses := true, apart := false }
def LatLiftsSaid : Prop := latLiftsRow.holds Try.pinned (OpenSpec.ofChange latLiftsSpec)

/-- ITS FALSE NEIGHBOUR: 'it returns false'. Refute it at one input. -/
def latLiftsWrong : ChangeSpec := { name := "latLifts", fn := fun _ => fun
  | [d1, d2, d3] => { results := [.lit (.bool false)], args := [d1, d2, d3] }
  | _ => none }
def LatLiftsWrongFalsely : Prop := latLiftsRow.holds Try.pinned (OpenSpec.ofChange latLiftsWrong)

/-- 'treillagelaw.LatTrue': WHATEVER THE INPUT: true; the input reads as it did. -/
def latTrueSpec : ChangeSpec := { name := "latTrue", fn := fun _ => fun
  | [d1, d2, d3, d4, d5] => { results := [.lit (.bool true)], args := [d1, d2, d3, d4, d5] }
  | _ => none }
def latTrueRow : OpenClaim := { program := "ythgjilgghgkodaa", sum := "56829e6c7d30cccdd1a740770d1a5b30d4283ad9e0393d322dfcb92ecfb2f38f", func := "treillage/treillagelaw.LatTrue", spec := "latTrue", unfollowed := true, recurses := true, apart := false }
def LatTrueSaid : Prop := latTrueRow.holds Try.pinned (OpenSpec.ofChange latTrueSpec)

/-- ITS FALSE NEIGHBOUR: 'it returns false'. Refute it at one input. -/
def latTrueWrong : ChangeSpec := { name := "latTrue", fn := fun _ => fun
  | [d1, d2, d3, d4, d5] => { results := [.lit (.bool false)], args := [d1, d2, d3, d4, d5] }
  | _ => none }
def LatTrueWrongFalsely : Prop := latTrueRow.holds Try.pinned (OpenSpec.ofChange latTrueWrong)

/-- 'treillagelaw.LatOrder': WHATEVER THE INPUT: true; the input reads as it did. -/
def latOrderSpec : ChangeSpec := { name := "latOrder", fn := fun _ => fun
  | [d1, d2, d3, d4] => { results := [.lit (.bool true)], args := [d1, d2, d3, d4] }
  | _ => none }
def latOrderRow : OpenClaim := { program := "ythgjilgghgkodaa", sum := "56829e6c7d30cccdd1a740770d1a5b30d4283ad9e0393d322dfcb92ecfb2f38f", func := "treillage/treillagelaw.LatOrder", spec := "latOrder", unfollowed := true, recurses := true, apart := false }
def LatOrderSaid : Prop := latOrderRow.holds Try.pinned (OpenSpec.ofChange latOrderSpec)

/-- ITS FALSE NEIGHBOUR: 'it returns false'. Refute it at one input. -/
def latOrderWrong : ChangeSpec := { name := "latOrder", fn := fun _ => fun
  | [d1, d2, d3, d4] => { results := [.lit (.bool false)], args := [d1, d2, d3, d4] }
  | _ => none }
def LatOrderWrongFalsely : Prop := latOrderRow.holds Try.pinned (OpenSpec.ofChange latOrderWrong)

/-- 'treillagelaw.RuleChecks': WHATEVER THE INPUT: true; the input reads as it did. -/
def ruleChecksSpec : ChangeSpec := { name := "ruleChecks", fn := fun _ => fun
  | [d1, d2, d3] => { results := [.lit (.bool true)], args := [d1, d2, d3] }
  | _ => none }
def ruleChecksRow : OpenClaim := { program := "ythgjilgghgkodaa", sum := "56829e6c7d30cccdd1a740770d1a5b30d4283ad9e0393d322dfcb92ecfb2f38f", func := "treillage/treillagelaw.RuleChecks", spec := "ruleChecks", unfollowed := true, recurses := true, apart := false }
def RuleChecksSaid : Prop := ruleChecksRow.holds Try.pinned (OpenSpec.ofChange ruleChecksSpec)

/-- ITS FALSE NEIGHBOUR: 'it returns false'. Refute it at one input. -/
def ruleChecksWrong : ChangeSpec := { name := "ruleChecks", fn := fun _ => fun
  | [d1, d2, d3] => { results := [.lit (.bool false)], args := [d1, d2, d3] }
  | _ => none }
def RuleChecksWrongFalsely : Prop := ruleChecksRow.holds Try.pinned (OpenSpec.ofChange ruleChecksWrong)

/-- 'treillagelaw.RuleGrounds': WHATEVER THE INPUT: true; the input reads as it did. -/
def ruleGroundsSpec : ChangeSpec := { name := "ruleGrounds", fn := fun _ => fun
  | [d1, d2, d3] => { results := [.lit (.bool true)], args := [d1, d2, d3] }
  | _ => none }
def ruleGroundsRow : OpenClaim := { program := "ythgjilgghgkodaa", sum := "56829e6c7d30cccdd1a740770d1a5b30d4283ad9e0393d322dfcb92ecfb2f38f", func := "treillage/treillagelaw.RuleGrounds", spec := "ruleGrounds", unfollowed := true, recurses := true, apart := false }
def RuleGroundsSaid : Prop := ruleGroundsRow.holds Try.pinned (OpenSpec.ofChange ruleGroundsSpec)

/-- ITS FALSE NEIGHBOUR: 'it returns false'. Refute it at one input. -/
def ruleGroundsWrong : ChangeSpec := { name := "ruleGrounds", fn := fun _ => fun
  | [d1, d2, d3] => { results := [.lit (.bool false)], args := [d1, d2, d3] }
  | _ => none }
def RuleGroundsWrongFalsely : Prop := ruleGroundsRow.holds Try.pinned (OpenSpec.ofChange ruleGroundsWrong)

/-- 'treillagelaw.ProgChecks': WHATEVER THE INPUT: true; the input reads as it did. -/
def progChecksSpec : ChangeSpec := { name := "progChecks", fn := fun _ => fun
  | [d1, d2] => { results := [.lit (.bool true)], args := [d1, d2] }
  | _ => none }
def progChecksRow : OpenClaim := { program := "ythgjilgghgkodaa", sum := "56829e6c7d30cccdd1a740770d1a5b30d4283ad9e0393d322dfcb92ecfb2f38f", func := "treillage/treillagelaw.ProgChecks", spec := "progChecks", unfollowed := true, recurses := true, apart := false }
def ProgChecksSaid : Prop := progChecksRow.holds Try.pinned (OpenSpec.ofChange progChecksSpec)

/-- ITS FALSE NEIGHBOUR: 'it returns false'. Refute it at one input. -/
def progChecksWrong : ChangeSpec := { name := "progChecks", fn := fun _ => fun
  | [d1, d2] => { results := [.lit (.bool false)], args := [d1, d2] }
  | _ => none }
def ProgChecksWrongFalsely : Prop := progChecksRow.holds Try.pinned (OpenSpec.ofChange progChecksWrong)

/-- 'treillagelaw.ProgStrata': WHATEVER THE INPUT: true; the input reads as it did. -/
def progStrataSpec : ChangeSpec := { name := "progStrata", fn := fun _ => fun
  | [d1, d2] => { results := [.lit (.bool true)], args := [d1, d2] }
  | _ => none }
def progStrataRow : OpenClaim := { program := "ythgjilgghgkodaa", sum := "56829e6c7d30cccdd1a740770d1a5b30d4283ad9e0393d322dfcb92ecfb2f38f", func := "treillage/treillagelaw.ProgStrata", spec := "progStrata", unfollowed := true, recurses := true, apart := false }
def ProgStrataSaid : Prop := progStrataRow.holds Try.pinned (OpenSpec.ofChange progStrataSpec)

/-- ITS FALSE NEIGHBOUR: 'it returns false'. Refute it at one input. -/
def progStrataWrong : ChangeSpec := { name := "progStrata", fn := fun _ => fun
  | [d1, d2] => { results := [.lit (.bool false)], args := [d1, d2] }
  | _ => none }
def ProgStrataWrongFalsely : Prop := progStrataRow.holds Try.pinned (OpenSpec.ofChange progStrataWrong)

/-- 'treillagelaw.ProgTrue': WHATEVER THE INPUT: true; the input reads as it did. -/
def progTrueSpec : ChangeSpec := { name := "progTrue", fn := fun _ => fun
  | [d1, d2] => { results := [.lit (.bool true)], args := [d1, d2] }
  | _ => none }
def progTrueRow : OpenClaim := { program := "ythgjilgghgkodaa", sum := "56829e6c7d30cccdd1a740770d1a5b30d4283ad9e0393d322dfcb92ecfb2f38f", func := "treillage/treillagelaw.ProgTrue", spec := "progTrue", unfollowed := true, recurses := true, apart := false }
def ProgTrueSaid : Prop := progTrueRow.holds Try.pinned (OpenSpec.ofChange progTrueSpec)

/-- ITS FALSE NEIGHBOUR: 'it returns false'. Refute it at one input. -/
def progTrueWrong : ChangeSpec := { name := "progTrue", fn := fun _ => fun
  | [d1, d2] => { results := [.lit (.bool false)], args := [d1, d2] }
  | _ => none }
def ProgTrueWrongFalsely : Prop := progTrueRow.holds Try.pinned (OpenSpec.ofChange progTrueWrong)

/-- 'treillagelaw.ProgNeeds': WHATEVER THE INPUT: true; the input reads as it did. -/
def progNeedsSpec : ChangeSpec := { name := "progNeeds", fn := fun _ => fun
  | [d1, d2, d3] => { results := [.lit (.bool true)], args := [d1, d2, d3] }
  | _ => none }
def progNeedsRow : OpenClaim := { program := "ythgjilgghgkodaa", sum := "56829e6c7d30cccdd1a740770d1a5b30d4283ad9e0393d322dfcb92ecfb2f38f", func := "treillage/treillagelaw.ProgNeeds", spec := "progNeeds", unfollowed := true, recurses := true, apart := false }
def ProgNeedsSaid : Prop := progNeedsRow.holds Try.pinned (OpenSpec.ofChange progNeedsSpec)

/-- ITS FALSE NEIGHBOUR: 'it returns false'. Refute it at one input. -/
def progNeedsWrong : ChangeSpec := { name := "progNeeds", fn := fun _ => fun
  | [d1, d2, d3] => { results := [.lit (.bool false)], args := [d1, d2, d3] }
  | _ => none }
def ProgNeedsWrongFalsely : Prop := progNeedsRow.holds Try.pinned (OpenSpec.ofChange progNeedsWrong)

/-- 'treillagelaw.SumTells': WHATEVER THE INPUT: true; the input reads as it did. -/
def sumTellsSpec : ChangeSpec := { name := "sumTells", fn := fun _ => fun
  | [d1, d2, d3] => { results := [.lit (.bool true)], args := [d1, d2, d3] }
  | _ => none }
def sumTellsRow : OpenClaim := { program := "ythgjilgghgkodaa", sum := "56829e6c7d30cccdd1a740770d1a5b30d4283ad9e0393d322dfcb92ecfb2f38f", func := "treillage/treillagelaw.SumTells", spec := "sumTells", unfollowed := true, recurses := true, apart := false }
def SumTellsSaid : Prop := sumTellsRow.holds Try.pinned (OpenSpec.ofChange sumTellsSpec)

/-- ITS FALSE NEIGHBOUR: 'it returns false'. Refute it at one input. -/
def sumTellsWrong : ChangeSpec := { name := "sumTells", fn := fun _ => fun
  | [d1, d2, d3] => { results := [.lit (.bool false)], args := [d1, d2, d3] }
  | _ => none }
def SumTellsWrongFalsely : Prop := sumTellsRow.holds Try.pinned (OpenSpec.ofChange sumTellsWrong)

/- THE SECOND FORM. 'bulk': how many values and letters a reading holds, each counted each time it is reached (what is shared counts as often as it is met; a slice's spare places count too). A statement '..UptoSaid' is the law's where the arguments, and the package variables that the reading takes, are together of bulk at most 1048576: NARROWER than '..Said'. Prove '..Said' where nothing that the law and all that it calls make is longer than what came in: it says more and counts as full. Else prove '..UptoSaid'. A law counts once. -/
mutual
def uptoBulk {H : Type} : DataW H → Nat
  | .lit (.string bytes) => bytes.length + 1
  | .lit _ => 1
  | .nil => 1
  | .ptr d => uptoBulk d + 1
  | .slice elems spare => uptoBulkAll elems + uptoBulkAll spare + 1
  | .agg parts => uptoBulkAll parts + 1
  | .iface _ d => uptoBulk d + 1
  | .map entries => uptoBulkEntries entries + 1
  | .held _ => 1
def uptoBulkAll {H : Type} : List (DataW H) → Nat
  | [] => 0
  | d :: r => uptoBulk d + uptoBulkAll r
def uptoBulkEntries {H : Type} : List (Lit × DataW H) → Nat
  | [] => 0
  | x :: r => uptoBulkEntry x + uptoBulkEntries r
def uptoBulkEntry {H : Type} : Lit × DataW H → Nat
  | (.string bytes, d) => bytes.length + uptoBulk d + 1
  | (_, d) => uptoBulk d + 1
 end
def uptoSmall : (H : Type) → List (DataW H) → Bool := fun _ ds => decide (uptoBulkAll ds ≤ 1048576)
def OpenSpec.upto (s : _root_.Go.ChangeSpec) : _root_.Go.OpenSpec := { _root_.Go.OpenSpec.ofChange s with cond := some uptoSmall }

/-- 'treillagelaw.LatTells', WHERE WHAT IT READS IS OF BULK AT MOST 1048576: true; the input reads as it did. -/
def latTellsUptoRow : OpenClaim := { program := "ythgjilgghgkodaa", sum := "56829e6c7d30cccdd1a740770d1a5b30d4283ad9e0393d322dfcb92ecfb2f38f", func := "treillage/treillagelaw.LatTells", spec := "latTells", unfollowed := true, recurses := true, apart := false, narrowed := true }
def LatTellsUptoSaid : Prop := latTellsUptoRow.holds Try.pinned (OpenSpec.upto latTellsSpec)

/-- 'treillagelaw.LatLifts', WHERE WHAT IT READS IS OF BULK AT MOST 1048576: true; the input reads as it did. -/
def latLiftsUptoRow : OpenClaim := { program := "ythgjilgghgkodaa", sum := "56829e6c7d30cccdd1a740770d1a5b30d4283ad9e0393d322dfcb92ecfb2f38f", func := "treillage/treillagelaw.LatLifts", spec := "latLifts", unfollowed := true, recurses := true, apart := false, narrowed := true }
def LatLiftsUptoSaid : Prop := latLiftsUptoRow.holds Try.pinned (OpenSpec.upto latLiftsSpec)

/-- 'treillagelaw.LatTrue', WHERE WHAT IT READS IS OF BULK AT MOST 1048576: true; the input reads as it did. -/
def latTrueUptoRow : OpenClaim := { program := "ythgjilgghgkodaa", sum := "56829e6c7d30cccdd1a740770d1a5b30d4283ad9e0393d322dfcb92ecfb2f38f", func := "treillage/treillagelaw.LatTrue", spec := "latTrue", unfollowed := true, recurses := true, apart := false, narrowed := true }
def LatTrueUptoSaid : Prop := latTrueUptoRow.holds Try.pinned (OpenSpec.upto latTrueSpec)

/-- 'treillagelaw.LatOrder', WHERE WHAT IT READS IS OF BULK AT MOST 1048576: true; the input reads as it did. -/
def latOrderUptoRow : OpenClaim := { program := "ythgjilgghgkodaa", sum := "56829e6c7d30cccdd1a740770d1a5b30d4283ad9e0393d322dfcb92ecfb2f38f", func := "treillage/treillagelaw.LatOrder", spec := "latOrder", unfollowed := true, recurses := true, apart := false, narrowed := true }
def LatOrderUptoSaid : Prop := latOrderUptoRow.holds Try.pinned (OpenSpec.upto latOrderSpec)

/-- 'treillagelaw.RuleChecks', WHERE WHAT IT READS IS OF BULK AT MOST 1048576: true; the input reads as it did. -/
def ruleChecksUptoRow : OpenClaim := { program := "ythgjilgghgkodaa", sum := "56829e6c7d30cccdd1a740770d1a5b30d4283ad9e0393d322dfcb92ecfb2f38f", func := "treillage/treillagelaw.RuleChecks", spec := "ruleChecks", unfollowed := true, recurses := true, apart := false, narrowed := true }
def RuleChecksUptoSaid : Prop := ruleChecksUptoRow.holds Try.pinned (OpenSpec.upto ruleChecksSpec)

/-- 'treillagelaw.RuleGrounds', WHERE WHAT IT READS IS OF BULK AT MOST 1048576: true; the input reads as it did. -/
def ruleGroundsUptoRow : OpenClaim := { program := "ythgjilgghgkodaa", sum := "56829e6c7d30cccdd1a740770d1a5b30d4283ad9e0393d322dfcb92ecfb2f38f", func := "treillage/treillagelaw.RuleGrounds", spec := "ruleGrounds", unfollowed := true, recurses := true, apart := false, narrowed := true }
def RuleGroundsUptoSaid : Prop := ruleGroundsUptoRow.holds Try.pinned (OpenSpec.upto ruleGroundsSpec)

/-- 'treillagelaw.ProgChecks', WHERE WHAT IT READS IS OF BULK AT MOST 1048576: true; the input reads as it did. -/
def progChecksUptoRow : OpenClaim := { program := "ythgjilgghgkodaa", sum := "56829e6c7d30cccdd1a740770d1a5b30d4283ad9e0393d322dfcb92ecfb2f38f", func := "treillage/treillagelaw.ProgChecks", spec := "progChecks", unfollowed := true, recurses := true, apart := false, narrowed := true }
def ProgChecksUptoSaid : Prop := progChecksUptoRow.holds Try.pinned (OpenSpec.upto progChecksSpec)

/-- 'treillagelaw.ProgStrata', WHERE WHAT IT READS IS OF BULK AT MOST 1048576: true; the input reads as it did. -/
def progStrataUptoRow : OpenClaim := { program := "ythgjilgghgkodaa", sum := "56829e6c7d30cccdd1a740770d1a5b30d4283ad9e0393d322dfcb92ecfb2f38f", func := "treillage/treillagelaw.ProgStrata", spec := "progStrata", unfollowed := true, recurses := true, apart := false, narrowed := true }
def ProgStrataUptoSaid : Prop := progStrataUptoRow.holds Try.pinned (OpenSpec.upto progStrataSpec)

/-- 'treillagelaw.ProgTrue', WHERE WHAT IT READS IS OF BULK AT MOST 1048576: true; the input reads as it did. -/
def progTrueUptoRow : OpenClaim := { program := "ythgjilgghgkodaa", sum := "56829e6c7d30cccdd1a740770d1a5b30d4283ad9e0393d322dfcb92ecfb2f38f", func := "treillage/treillagelaw.ProgTrue", spec := "progTrue", unfollowed := true, recurses := true, apart := false, narrowed := true }
def ProgTrueUptoSaid : Prop := progTrueUptoRow.holds Try.pinned (OpenSpec.upto progTrueSpec)

/-- 'treillagelaw.ProgNeeds', WHERE WHAT IT READS IS OF BULK AT MOST 1048576: true; the input reads as it did. -/
def progNeedsUptoRow : OpenClaim := { program := "ythgjilgghgkodaa", sum := "56829e6c7d30cccdd1a740770d1a5b30d4283ad9e0393d322dfcb92ecfb2f38f", func := "treillage/treillagelaw.ProgNeeds", spec := "progNeeds", unfollowed := true, recurses := true, apart := false, narrowed := true }
def ProgNeedsUptoSaid : Prop := progNeedsUptoRow.holds Try.pinned (OpenSpec.upto progNeedsSpec)

/-- 'treillagelaw.SumTells', WHERE WHAT IT READS IS OF BULK AT MOST 1048576: true; the input reads as it did. -/
def sumTellsUptoRow : OpenClaim := { program := "ythgjilgghgkodaa", sum := "56829e6c7d30cccdd1a740770d1a5b30d4283ad9e0393d322dfcb92ecfb2f38f", func := "treillage/treillagelaw.SumTells", spec := "sumTells", unfollowed := true, recurses := true, apart := false, narrowed := true }
def SumTellsUptoSaid : Prop := sumTellsUptoRow.holds Try.pinned (OpenSpec.upto sumTellsSpec)

end Rows
end Go.Proofs.Ythgjilgghgkodaa
