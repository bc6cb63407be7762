/-
  No cell of these rows narrows 'for every input' (looked for: loops, veiled, ifaces, maps, wideKeys, modest, calm, conditions, laid).
  DERIVED. THE GIVEN ROWS OF THIS SEAT. 3 by the template 'for every input the law returns true; each argument reads behind the call as it read before'; 0 by the template 'total and deterministic' (their statements: YtgblgeddpegplaaTotals.lean).
  GIVEN WITH THE SEED: the statements are not yours to turn. If you find one false, say at which input.
  Laid BY PROGRAM, IN A SANDBOX (cutbox-rows.mjs): the forced cells as the released guide's own fill.sh prints them over the translation 35098bb6d53ae481… (all of the seat's roots in one cut). By AI agents, Wed Nov 11 2026. No macro, syntax, notation, axiom, sorry.
-/
import Derived.Test.YtgblgeddpegplaaChecked
import GoSem.Claim
import GoSem.ClaimJoined
import GoSem.ClaimMapViews
import Derived.JoinedTies
import Derived.KernelRfl
namespace Go.Proofs.Ytgblgeddpegplaa
/- THE CELL 'sum', in the pinned program and in every row, IS THE sha256 OF THE DUMP (.gsa) THAT YtgblgeddpegplaaProg.lean LOADS. Nothing in Lean hashes anything: it is a label: what it is worth is what the hold of that sum in a sandbox is worth. -/
noncomputable def Try.pinned : Pinned := { name := "ytgblgeddpegplaa", sum := "35098bb6d53ae48169dac817e36ede8d1ef096409df8f8c27a9ded9f9b2ddd0f", checked := Try.checked }
namespace Rows
def none {H : Type} : Left H := { results := [], args := [] }

/-- 'treillagelaw.SumTells': WHATEVER THE INPUT: true; the input reads as it did. -/
def sumTellsSpec : ChangeSpec := { name := "sumTells", fn := fun _ => fun
  | [d1, d2, d3] => { results := [.lit (.bool true)], args := [d1, d2, d3] }
  | _ => none }
def sumTellsRow : OpenClaim := { program := "ytgblgeddpegplaa", sum := "35098bb6d53ae48169dac817e36ede8d1ef096409df8f8c27a9ded9f9b2ddd0f", func := "treillage/treillagelaw.SumTells", spec := "sumTells", unfollowed := true, recurses := true, apart := false }
def SumTellsSaid : Prop := sumTellsRow.holds Try.pinned (OpenSpec.ofChange sumTellsSpec)

/-- ITS FALSE NEIGHBOUR: 'it returns false'. Refute it at one input. -/
def sumTellsWrong : ChangeSpec := { name := "sumTells", fn := fun _ => fun
  | [d1, d2, d3] => { results := [.lit (.bool false)], args := [d1, d2, d3] }
  | _ => none }
def SumTellsWrongFalsely : Prop := sumTellsRow.holds Try.pinned (OpenSpec.ofChange sumTellsWrong)

/-- 'treillagelaw.SemiSame': WHATEVER THE INPUT: true; the input reads as it did. -/
def semiSameSpec : ChangeSpec := { name := "semiSame", fn := fun _ => fun
  | [d] => { results := [.lit (.bool true)], args := [d] }
  | _ => none }
def semiSameRow : OpenClaim := { program := "ytgblgeddpegplaa", sum := "35098bb6d53ae48169dac817e36ede8d1ef096409df8f8c27a9ded9f9b2ddd0f", func := "treillage/treillagelaw.SemiSame", spec := "semiSame", inPlace := ["slices.overlaps[treillage/api.Fact]"], unfollowed := true, recurses := true, apart := false }
def SemiSameSaid : Prop := semiSameRow.holds Try.pinned (OpenSpec.ofChange semiSameSpec)

/-- ITS FALSE NEIGHBOUR: 'it returns false'. Refute it at one input. -/
def semiSameWrong : ChangeSpec := { name := "semiSame", fn := fun _ => fun
  | [d] => { results := [.lit (.bool false)], args := [d] }
  | _ => none }
def SemiSameWrongFalsely : Prop := semiSameRow.holds Try.pinned (OpenSpec.ofChange semiSameWrong)

/-- 'treillagelaw.NaiveOrder': WHATEVER THE INPUT: true; the input reads as it did. -/
def naiveOrderSpec : ChangeSpec := { name := "naiveOrder", fn := fun _ => fun
  | [d1, d2, d3] => { results := [.lit (.bool true)], args := [d1, d2, d3] }
  | _ => none }
def naiveOrderRow : OpenClaim := { program := "ytgblgeddpegplaa", sum := "35098bb6d53ae48169dac817e36ede8d1ef096409df8f8c27a9ded9f9b2ddd0f", func := "treillage/treillagelaw.NaiveOrder", spec := "naiveOrder", inPlace := ["slices.overlaps[treillage/api.Fact]"], unfollowed := true, recurses := true, apart := false }
def NaiveOrderSaid : Prop := naiveOrderRow.holds Try.pinned (OpenSpec.ofChange naiveOrderSpec)

/-- ITS FALSE NEIGHBOUR: 'it returns false'. Refute it at one input. -/
def naiveOrderWrong : ChangeSpec := { name := "naiveOrder", fn := fun _ => fun
  | [d1, d2, d3] => { results := [.lit (.bool false)], args := [d1, d2, d3] }
  | _ => none }
def NaiveOrderWrongFalsely : Prop := naiveOrderRow.holds Try.pinned (OpenSpec.ofChange naiveOrderWrong)

/- THE SECOND FORM. 'bulk': how many values and letters a reading holds, each counted each time it is reached (what is shared counts as often as it is met; a slice's spare places count too). A statement '..UptoSaid' is the law's where the arguments, and the package variables that the reading takes, are together of bulk at most 1048576: NARROWER than '..Said'. Prove '..Said' where nothing that the law and all that it calls make is longer than what came in: it says more and counts as full. Else prove '..UptoSaid'. A law counts once. -/
mutual
def uptoBulk {H : Type} : DataW H → Nat
  | .lit (.string bytes) => bytes.length + 1
  | .lit _ => 1
  | .nil => 1
  | .ptr d => uptoBulk d + 1
  | .slice elems spare => uptoBulkAll elems + uptoBulkAll spare + 1
  | .agg parts => uptoBulkAll parts + 1
  | .iface _ d => uptoBulk d + 1
  | .map entries => uptoBulkEntries entries + 1
  | .held _ => 1
def uptoBulkAll {H : Type} : List (DataW H) → Nat
  | [] => 0
  | d :: r => uptoBulk d + uptoBulkAll r
def uptoBulkEntries {H : Type} : List (Lit × DataW H) → Nat
  | [] => 0
  | x :: r => uptoBulkEntry x + uptoBulkEntries r
def uptoBulkEntry {H : Type} : Lit × DataW H → Nat
  | (.string bytes, d) => bytes.length + uptoBulk d + 1
  | (_, d) => uptoBulk d + 1
 end
def uptoSmall : (H : Type) → List (DataW H) → Bool := fun _ ds => decide (uptoBulkAll ds ≤ 1048576)
def OpenSpec.upto (s : _root_.Go.ChangeSpec) : _root_.Go.OpenSpec := { _root_.Go.OpenSpec.ofChange s with cond := some uptoSmall }

/-- 'treillagelaw.SumTells', WHERE WHAT IT READS IS OF BULK AT MOST 1048576: true; the input reads as it did. -/
def sumTellsUptoRow : OpenClaim := { program := "ytgblgeddpegplaa", sum := "35098bb6d53ae48169dac817e36ede8d1ef096409df8f8c27a9ded9f9b2ddd0f", func := "treillage/treillagelaw.SumTells", spec := "sumTells", unfollowed := true, recurses := true, apart := false, narrowed := true }
def SumTellsUptoSaid : Prop := sumTellsUptoRow.holds Try.pinned (OpenSpec.upto sumTellsSpec)

/-- 'treillagelaw.SemiSame', WHERE WHAT IT READS IS OF BULK AT MOST 1048576: true; the input reads as it did. -/
def semiSameUptoRow : OpenClaim := { program := "ytgblgeddpegplaa", sum := "35098bb6d53ae48169dac817e36ede8d1ef096409df8f8c27a9ded9f9b2ddd0f", func := "treillage/treillagelaw.SemiSame", spec := "semiSame", inPlace := ["slices.overlaps[treillage/api.Fact]"], unfollowed := true, recurses := true, apart := false, narrowed := true }
def SemiSameUptoSaid : Prop := semiSameUptoRow.holds Try.pinned (OpenSpec.upto semiSameSpec)

/-- 'treillagelaw.NaiveOrder', WHERE WHAT IT READS IS OF BULK AT MOST 1048576: true; the input reads as it did. -/
def naiveOrderUptoRow : OpenClaim := { program := "ytgblgeddpegplaa", sum := "35098bb6d53ae48169dac817e36ede8d1ef096409df8f8c27a9ded9f9b2ddd0f", func := "treillage/treillagelaw.NaiveOrder", spec := "naiveOrder", inPlace := ["slices.overlaps[treillage/api.Fact]"], unfollowed := true, recurses := true, apart := false, narrowed := true }
def NaiveOrderUptoSaid : Prop := naiveOrderUptoRow.holds Try.pinned (OpenSpec.upto naiveOrderSpec)

end Rows
end Go.Proofs.Ytgblgeddpegplaa
