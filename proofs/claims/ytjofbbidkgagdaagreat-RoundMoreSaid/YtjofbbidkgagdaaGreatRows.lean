/-
  No cell of these rows narrows 'for every input' (looked for: loops, veiled, ifaces, maps, wideKeys, modest, calm, conditions, laid).
  DERIVED. THE GIVEN ROWS OF THIS SEAT. 6 by the template 'for every input the law returns true; each argument reads behind the call as it read before'; 0 by the template 'total and deterministic' (their statements: YtjofbbidkgagdaaGreatTotals.lean).
  GIVEN WITH THE SEED: the statements are not yours to turn. If you find one false, say at which input.
  Laid BY PROGRAM, IN A SANDBOX (cutbox-rows.mjs): the forced cells as the released guide's own fill.sh prints them over the translation 169e39013b104114… (all of the seat's roots in one cut). By AI agents, Wed Nov 11 2026. No macro, syntax, notation, axiom, sorry.
-/
import Derived.Test.YtjofbbidkgagdaaGreatChecked
import GoSem.Claim
import GoSem.ClaimJoined
import GoSem.ClaimMapViews
import Derived.JoinedTies
import Derived.KernelRfl
namespace Go.Proofs.YtjofbbidkgagdaaGreat
/- THE CELL 'sum', in the pinned program and in every row, IS THE sha256 OF THE DUMP (.gsa) THAT YtjofbbidkgagdaaGreatProg.lean LOADS. Nothing in Lean hashes anything: it is a label: what it is worth is what the hold of that sum in a sandbox is worth. -/
noncomputable def Tryz.pinned : Pinned := { name := "ytjofbbidkgagdaagreat", sum := "169e39013b104114b84cdbb6aaec30a101e70fd2a1aa95621335c84b73aa607f", checked := Tryz.checked }
namespace Rows
def none {H : Type} : Left H := { results := [], args := [] }

/-- 'treillagelaw.FireHolds': WHATEVER THE INPUT: true; the input reads as it did. -/
def fireHoldsSpec : ChangeSpec := { name := "fireHolds", fn := fun _ => fun
  | [d1, d2, d3, d4] => { results := [.lit (.bool true)], args := [d1, d2, d3, d4] }
  | _ => none }
def fireHoldsRow : OpenClaim := { program := "ytjofbbidkgagdaagreat", sum := "169e39013b104114b84cdbb6aaec30a101e70fd2a1aa95621335c84b73aa607f", func := "treillage/treillagelaw.FireHolds", spec := "fireHolds", unfollowed := true, recurses := true, apart := false }
def FireHoldsSaid : Prop := fireHoldsRow.holds Tryz.pinned (OpenSpec.ofChange fireHoldsSpec)

/-- ITS FALSE NEIGHBOUR: 'it returns false'. Refute it at one input. -/
def fireHoldsWrong : ChangeSpec := { name := "fireHolds", fn := fun _ => fun
  | [d1, d2, d3, d4] => { results := [.lit (.bool false)], args := [d1, d2, d3, d4] }
  | _ => none }
def FireHoldsWrongFalsely : Prop := fireHoldsRow.holds Tryz.pinned (OpenSpec.ofChange fireHoldsWrong)

/-- 'treillagelaw.FireAll': WHATEVER THE INPUT: true; the input reads as it did. -/
def fireAllSpec : ChangeSpec := { name := "fireAll", fn := fun _ => fun
  | [d1, d2, d3] => { results := [.lit (.bool true)], args := [d1, d2, d3] }
  | _ => none }
def fireAllRow : OpenClaim := { program := "ytjofbbidkgagdaagreat", sum := "169e39013b104114b84cdbb6aaec30a101e70fd2a1aa95621335c84b73aa607f", func := "treillage/treillagelaw.FireAll", spec := "fireAll", unfollowed := true, recurses := true, apart := false }
def FireAllSaid : Prop := fireAllRow.holds Tryz.pinned (OpenSpec.ofChange fireAllSpec)

/-- ITS FALSE NEIGHBOUR: 'it returns false'. Refute it at one input. -/
def fireAllWrong : ChangeSpec := { name := "fireAll", fn := fun _ => fun
  | [d1, d2, d3] => { results := [.lit (.bool false)], args := [d1, d2, d3] }
  | _ => none }
def FireAllWrongFalsely : Prop := fireAllRow.holds Tryz.pinned (OpenSpec.ofChange fireAllWrong)

/-- 'treillagelaw.RoundTells': WHATEVER THE INPUT: true; the input reads as it did. -/
def roundTellsSpec : ChangeSpec := { name := "roundTells", fn := fun _ => fun
  | [d1, d2, d3] => { results := [.lit (.bool true)], args := [d1, d2, d3] }
  | _ => none }
def roundTellsRow : OpenClaim := { program := "ytjofbbidkgagdaagreat", sum := "169e39013b104114b84cdbb6aaec30a101e70fd2a1aa95621335c84b73aa607f", func := "treillage/treillagelaw.RoundTells", spec := "roundTells", inPlace := ["slices.overlaps[treillage/api.Fact]"], unfollowed := true, recurses := true, apart := false }
def RoundTellsSaid : Prop := roundTellsRow.holds Tryz.pinned (OpenSpec.ofChange roundTellsSpec)

/-- ITS FALSE NEIGHBOUR: 'it returns false'. Refute it at one input. -/
def roundTellsWrong : ChangeSpec := { name := "roundTells", fn := fun _ => fun
  | [d1, d2, d3] => { results := [.lit (.bool false)], args := [d1, d2, d3] }
  | _ => none }
def RoundTellsWrongFalsely : Prop := roundTellsRow.holds Tryz.pinned (OpenSpec.ofChange roundTellsWrong)

/-- 'treillagelaw.RoundLevel': WHATEVER THE INPUT: true; the input reads as it did. -/
def roundLevelSpec : ChangeSpec := { name := "roundLevel", fn := fun _ => fun
  | [d1, d2, d3] => { results := [.lit (.bool true)], args := [d1, d2, d3] }
  | _ => none }
def roundLevelRow : OpenClaim := { program := "ytjofbbidkgagdaagreat", sum := "169e39013b104114b84cdbb6aaec30a101e70fd2a1aa95621335c84b73aa607f", func := "treillage/treillagelaw.RoundLevel", spec := "roundLevel", inPlace := ["slices.overlaps[treillage/api.Fact]"], unfollowed := true, recurses := true, apart := false }
def RoundLevelSaid : Prop := roundLevelRow.holds Tryz.pinned (OpenSpec.ofChange roundLevelSpec)

/-- ITS FALSE NEIGHBOUR: 'it returns false'. Refute it at one input. -/
def roundLevelWrong : ChangeSpec := { name := "roundLevel", fn := fun _ => fun
  | [d1, d2, d3] => { results := [.lit (.bool false)], args := [d1, d2, d3] }
  | _ => none }
def RoundLevelWrongFalsely : Prop := roundLevelRow.holds Tryz.pinned (OpenSpec.ofChange roundLevelWrong)

/-- 'treillagelaw.RoundTrue': WHATEVER THE INPUT: true; the input reads as it did. -/
def roundTrueSpec : ChangeSpec := { name := "roundTrue", fn := fun _ => fun
  | [d1, d2, d3] => { results := [.lit (.bool true)], args := [d1, d2, d3] }
  | _ => none }
def roundTrueRow : OpenClaim := { program := "ytjofbbidkgagdaagreat", sum := "169e39013b104114b84cdbb6aaec30a101e70fd2a1aa95621335c84b73aa607f", func := "treillage/treillagelaw.RoundTrue", spec := "roundTrue", inPlace := ["slices.overlaps[treillage/api.Fact]"], unfollowed := true, recurses := true, apart := false }
def RoundTrueSaid : Prop := roundTrueRow.holds Tryz.pinned (OpenSpec.ofChange roundTrueSpec)

/-- ITS FALSE NEIGHBOUR: 'it returns false'. Refute it at one input. -/
def roundTrueWrong : ChangeSpec := { name := "roundTrue", fn := fun _ => fun
  | [d1, d2, d3] => { results := [.lit (.bool false)], args := [d1, d2, d3] }
  | _ => none }
def RoundTrueWrongFalsely : Prop := roundTrueRow.holds Tryz.pinned (OpenSpec.ofChange roundTrueWrong)

/-- 'treillagelaw.RoundMore': WHATEVER THE INPUT: true; the input reads as it did. -/
def roundMoreSpec : ChangeSpec := { name := "roundMore", fn := fun _ => fun
  | [d1, d2, d3, d4] => { results := [.lit (.bool true)], args := [d1, d2, d3, d4] }
  | _ => none }
def roundMoreRow : OpenClaim := { program := "ytjofbbidkgagdaagreat", sum := "169e39013b104114b84cdbb6aaec30a101e70fd2a1aa95621335c84b73aa607f", func := "treillage/treillagelaw.RoundMore", spec := "roundMore", inPlace := ["slices.overlaps[treillage/api.Fact]"], unfollowed := true, recurses := true, apart := false }
def RoundMoreSaid : Prop := roundMoreRow.holds Tryz.pinned (OpenSpec.ofChange roundMoreSpec)

/-- ITS FALSE NEIGHBOUR: 'it returns false'. Refute it at one input. -/
def roundMoreWrong : ChangeSpec := { name := "roundMore", fn := fun _ => fun
  | [d1, d2, d3, d4] => { results := [.lit (.bool false)], args := [d1, d2, d3, d4] }
  | _ => none }
def RoundMoreWrongFalsely : Prop := roundMoreRow.holds Tryz.pinned (OpenSpec.ofChange roundMoreWrong)

/- THE SECOND FORM. 'bulk': how many values and letters a reading holds, each counted each time it is reached (what is shared counts as often as it is met; a slice's spare places count too). A statement '..UptoSaid' is the law's where the arguments, and the package variables that the reading takes, are together of bulk at most 1048576: NARROWER than '..Said'. Prove '..Said' where nothing that the law and all that it calls make is longer than what came in: it says more and counts as full. Else prove '..UptoSaid'. A law counts once. -/
mutual
def uptoBulk {H : Type} : DataW H → Nat
  | .lit (.string bytes) => bytes.length + 1
  | .lit _ => 1
  | .nil => 1
  | .ptr d => uptoBulk d + 1
  | .slice elems spare => uptoBulkAll elems + uptoBulkAll spare + 1
  | .agg parts => uptoBulkAll parts + 1
  | .iface _ d => uptoBulk d + 1
  | .map entries => uptoBulkEntries entries + 1
  | .held _ => 1
def uptoBulkAll {H : Type} : List (DataW H) → Nat
  | [] => 0
  | d :: r => uptoBulk d + uptoBulkAll r
def uptoBulkEntries {H : Type} : List (Lit × DataW H) → Nat
  | [] => 0
  | x :: r => uptoBulkEntry x + uptoBulkEntries r
def uptoBulkEntry {H : Type} : Lit × DataW H → Nat
  | (.string bytes, d) => bytes.length + uptoBulk d + 1
  | (_, d) => uptoBulk d + 1
 end
def uptoSmall : (H : Type) → List (DataW H) → Bool := fun _ ds => decide (uptoBulkAll ds ≤ 1048576)
def OpenSpec.upto (s : _root_.Go.ChangeSpec) : _root_.Go.OpenSpec := { _root_.Go.OpenSpec.ofChange s with cond := some uptoSmall }

/-- 'treillagelaw.FireHolds', WHERE WHAT IT READS IS OF BULK AT MOST 1048576: true; the input reads as it did. -/
def fireHoldsUptoRow : OpenClaim := { program := "ytjofbbidkgagdaagreat", sum := "169e39013b104114b84cdbb6aaec30a101e70fd2a1aa95621335c84b73aa607f", func := "treillage/treillagelaw.FireHolds", spec := "fireHolds", unfollowed := true, recurses := true, apart := false, narrowed := true }
def FireHoldsUptoSaid : Prop := fireHoldsUptoRow.holds Tryz.pinned (OpenSpec.upto fireHoldsSpec)

/-- 'treillagelaw.FireAll', WHERE WHAT IT READS IS OF BULK AT MOST 1048576: true; the input reads as it did. -/
def fireAllUptoRow : OpenClaim := { program := "ytjofbbidkgagdaagreat", sum := "169e39013b104114b84cdbb6aaec30a101e70fd2a1aa95621335c84b73aa607f", func := "treillage/treillagelaw.FireAll", spec := "fireAll", unfollowed := true, recurses := true, apart := false, narrowed := true }
def FireAllUptoSaid : Prop := fireAllUptoRow.holds Tryz.pinned (OpenSpec.upto fireAllSpec)

/-- 'treillagelaw.RoundTells', WHERE WHAT IT READS IS OF BULK AT MOST 1048576: true; the input reads as it did. -/
def roundTellsUptoRow : OpenClaim := { program := "ytjofbbidkgagdaagreat", sum := "169e39013b104114b84cdbb6aaec30a101e70fd2a1aa95621335c84b73aa607f", func := "treillage/treillagelaw.RoundTells", spec := "roundTells", inPlace := ["slices.overlaps[treillage/api.Fact]"], unfollowed := true, recurses := true, apart := false, narrowed := true }
def RoundTellsUptoSaid : Prop := roundTellsUptoRow.holds Tryz.pinned (OpenSpec.upto roundTellsSpec)

/-- 'treillagelaw.RoundLevel', WHERE WHAT IT READS IS OF BULK AT MOST 1048576: true; the input reads as it did. -/
def roundLevelUptoRow : OpenClaim := { program := "ytjofbbidkgagdaagreat", sum := "169e39013b104114b84cdbb6aaec30a101e70fd2a1aa95621335c84b73aa607f", func := "treillage/treillagelaw.RoundLevel", spec := "roundLevel", inPlace := ["slices.overlaps[treillage/api.Fact]"], unfollowed := true, recurses := true, apart := false, narrowed := true }
def RoundLevelUptoSaid : Prop := roundLevelUptoRow.holds Tryz.pinned (OpenSpec.upto roundLevelSpec)

/-- 'treillagelaw.RoundTrue', WHERE WHAT IT READS IS OF BULK AT MOST 1048576: true; the input reads as it did. -/
def roundTrueUptoRow : OpenClaim := { program := "ytjofbbidkgagdaagreat", sum := "169e39013b104114b84cdbb6aaec30a101e70fd2a1aa95621335c84b73aa607f", func := "treillage/treillagelaw.RoundTrue", spec := "roundTrue", inPlace := ["slices.overlaps[treillage/api.Fact]"], unfollowed := true, recurses := true, apart := false, narrowed := true }
def RoundTrueUptoSaid : Prop := roundTrueUptoRow.holds Tryz.pinned (OpenSpec.upto roundTrueSpec)

/-- 'treillagelaw.RoundMore', WHERE WHAT IT READS IS OF BULK AT MOST 1048576: true; the input reads as it did. -/
def roundMoreUptoRow : OpenClaim := { program := "ytjofbbidkgagdaagreat", sum := "169e39013b104114b84cdbb6aaec30a101e70fd2a1aa95621335c84b73aa607f", func := "treillage/treillagelaw.RoundMore", spec := "roundMore", inPlace := ["slices.overlaps[treillage/api.Fact]"], unfollowed := true, recurses := true, apart := false, narrowed := true }
def RoundMoreUptoSaid : Prop := roundMoreUptoRow.holds Tryz.pinned (OpenSpec.upto roundMoreSpec)

end Rows
end Go.Proofs.YtjofbbidkgagdaaGreat
