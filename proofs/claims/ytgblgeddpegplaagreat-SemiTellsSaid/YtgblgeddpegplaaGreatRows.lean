/-
  No cell of these rows narrows 'for every input' (looked for: loops, veiled, ifaces, maps, wideKeys, modest, calm, conditions, laid).
  DERIVED. THE GIVEN ROWS OF THIS SEAT. 14 by the template 'for every input the law returns true; each argument reads behind the call as it read before'; 0 by the template 'total and deterministic' (their statements: YtgblgeddpegplaaGreatTotals.lean).
  GIVEN WITH THE SEED: the statements are not yours to turn. If you find one false, say at which input.
  Laid BY PROGRAM, IN A SANDBOX (cutbox-rows.mjs): the forced cells as the released guide's own fill.sh prints them over the translation 0f957073802c1f4a… (all of the seat's roots in one cut). By AI agents, Wed Nov 11 2026. No macro, syntax, notation, axiom, sorry.
-/
import Derived.Test.YtgblgeddpegplaaGreatChecked
import GoSem.Claim
import GoSem.ClaimJoined
import GoSem.ClaimMapViews
import Derived.JoinedTies
import Derived.KernelRfl
namespace Go.Proofs.YtgblgeddpegplaaGreat
/- THE CELL 'sum', in the pinned program and in every row, IS THE sha256 OF THE DUMP (.gsa) THAT YtgblgeddpegplaaGreatProg.lean LOADS. Nothing in Lean hashes anything: it is a label: what it is worth is what the hold of that sum in a sandbox is worth. -/
noncomputable def Tryz.pinned : Pinned := { name := "ytgblgeddpegplaagreat", sum := "0f957073802c1f4ac8665f615808d47618f7e651efdac17cb875fc6ec0e4ed03", checked := Tryz.checked }
namespace Rows
def none {H : Type} : Left H := { results := [], args := [] }

/-- 'treillagelaw.SemiTells': WHATEVER THE INPUT: true; the input reads as it did. -/
def semiTellsSpec : ChangeSpec := { name := "semiTells", fn := fun _ => fun
  | [d] => { results := [.lit (.bool true)], args := [d] }
  | _ => none }
def semiTellsRow : OpenClaim := { program := "ytgblgeddpegplaagreat", sum := "0f957073802c1f4ac8665f615808d47618f7e651efdac17cb875fc6ec0e4ed03", func := "treillage/treillagelaw.SemiTells", spec := "semiTells", inPlace := ["slices.overlaps[treillage/api.Fact]"], unfollowed := true, recurses := true, apart := false }
def SemiTellsSaid : Prop := semiTellsRow.holds Tryz.pinned (OpenSpec.ofChange semiTellsSpec)

/-- ITS FALSE NEIGHBOUR: 'it returns false'. Refute it at one input. -/
def semiTellsWrong : ChangeSpec := { name := "semiTells", fn := fun _ => fun
  | [d] => { results := [.lit (.bool false)], args := [d] }
  | _ => none }
def SemiTellsWrongFalsely : Prop := semiTellsRow.holds Tryz.pinned (OpenSpec.ofChange semiTellsWrong)

/-- 'treillagelaw.TraceTells': WHATEVER THE INPUT: true; the input reads as it did. -/
def traceTellsSpec : ChangeSpec := { name := "traceTells", fn := fun _ => fun
  | [d] => { results := [.lit (.bool true)], args := [d] }
  | _ => none }
def traceTellsRow : OpenClaim := { program := "ytgblgeddpegplaagreat", sum := "0f957073802c1f4ac8665f615808d47618f7e651efdac17cb875fc6ec0e4ed03", func := "treillage/treillagelaw.TraceTells", spec := "traceTells", inPlace := ["slices.overlaps[treillage/api.Fact]"], unfollowed := true, recurses := true, apart := false }
def TraceTellsSaid : Prop := traceTellsRow.holds Tryz.pinned (OpenSpec.ofChange traceTellsSpec)

/-- ITS FALSE NEIGHBOUR: 'it returns false'. Refute it at one input. -/
def traceTellsWrong : ChangeSpec := { name := "traceTells", fn := fun _ => fun
  | [d] => { results := [.lit (.bool false)], args := [d] }
  | _ => none }
def TraceTellsWrongFalsely : Prop := traceTellsRow.holds Tryz.pinned (OpenSpec.ofChange traceTellsWrong)

/-- 'treillagelaw.TraceReplays': WHATEVER THE INPUT: true; the input reads as it did. -/
def traceReplaysSpec : ChangeSpec := { name := "traceReplays", fn := fun _ => fun
  | [d1, d2] => { results := [.lit (.bool true)], args := [d1, d2] }
  | _ => none }
def traceReplaysRow : OpenClaim := { program := "ytgblgeddpegplaagreat", sum := "0f957073802c1f4ac8665f615808d47618f7e651efdac17cb875fc6ec0e4ed03", func := "treillage/treillagelaw.TraceReplays", spec := "traceReplays", inPlace := ["slices.overlaps[treillage/api.Fact]"], unfollowed := true, recurses := true, apart := false }
def TraceReplaysSaid : Prop := traceReplaysRow.holds Tryz.pinned (OpenSpec.ofChange traceReplaysSpec)

/-- ITS FALSE NEIGHBOUR: 'it returns false'. Refute it at one input. -/
def traceReplaysWrong : ChangeSpec := { name := "traceReplays", fn := fun _ => fun
  | [d1, d2] => { results := [.lit (.bool false)], args := [d1, d2] }
  | _ => none }
def TraceReplaysWrongFalsely : Prop := traceReplaysRow.holds Tryz.pinned (OpenSpec.ofChange traceReplaysWrong)

/-- 'treillagelaw.NaiveTells': WHATEVER THE INPUT: true; the input reads as it did. -/
def naiveTellsSpec : ChangeSpec := { name := "naiveTells", fn := fun _ => fun
  | [d] => { results := [.lit (.bool true)], args := [d] }
  | _ => none }
def naiveTellsRow : OpenClaim := { program := "ytgblgeddpegplaagreat", sum := "0f957073802c1f4ac8665f615808d47618f7e651efdac17cb875fc6ec0e4ed03", func := "treillage/treillagelaw.NaiveTells", spec := "naiveTells", inPlace := ["slices.overlaps[treillage/api.Fact]"], unfollowed := true, recurses := true, apart := false }
def NaiveTellsSaid : Prop := naiveTellsRow.holds Tryz.pinned (OpenSpec.ofChange naiveTellsSpec)

/-- ITS FALSE NEIGHBOUR: 'it returns false'. Refute it at one input. -/
def naiveTellsWrong : ChangeSpec := { name := "naiveTells", fn := fun _ => fun
  | [d] => { results := [.lit (.bool false)], args := [d] }
  | _ => none }
def NaiveTellsWrongFalsely : Prop := naiveTellsRow.holds Tryz.pinned (OpenSpec.ofChange naiveTellsWrong)

/-- 'treillagelaw.RestProgs': WHATEVER THE INPUT: true; the input reads as it did. -/
def restProgsSpec : ChangeSpec := { name := "restProgs", fn := fun _ => fun
  | [d1, d2, d3] => { results := [.lit (.bool true)], args := [d1, d2, d3] }
  | _ => none }
def restProgsRow : OpenClaim := { program := "ytgblgeddpegplaagreat", sum := "0f957073802c1f4ac8665f615808d47618f7e651efdac17cb875fc6ec0e4ed03", func := "treillage/treillagelaw.RestProgs", spec := "restProgs", inPlace := ["slices.overlaps[treillage/api.Fact]"], unfollowed := true, recurses := true, apart := false }
def RestProgsSaid : Prop := restProgsRow.holds Tryz.pinned (OpenSpec.ofChange restProgsSpec)

/-- ITS FALSE NEIGHBOUR: 'it returns false'. Refute it at one input. -/
def restProgsWrong : ChangeSpec := { name := "restProgs", fn := fun _ => fun
  | [d1, d2, d3] => { results := [.lit (.bool false)], args := [d1, d2, d3] }
  | _ => none }
def RestProgsWrongFalsely : Prop := restProgsRow.holds Tryz.pinned (OpenSpec.ofChange restProgsWrong)

/-- 'treillagelaw.NaiveClosed': WHATEVER THE INPUT: true; the input reads as it did. -/
def naiveClosedSpec : ChangeSpec := { name := "naiveClosed", fn := fun _ => fun
  | [d1, d2] => { results := [.lit (.bool true)], args := [d1, d2] }
  | _ => none }
def naiveClosedRow : OpenClaim := { program := "ytgblgeddpegplaagreat", sum := "0f957073802c1f4ac8665f615808d47618f7e651efdac17cb875fc6ec0e4ed03", func := "treillage/treillagelaw.NaiveClosed", spec := "naiveClosed", inPlace := ["slices.overlaps[treillage/api.Fact]"], unfollowed := true, recurses := true, apart := false }
def NaiveClosedSaid : Prop := naiveClosedRow.holds Tryz.pinned (OpenSpec.ofChange naiveClosedSpec)

/-- ITS FALSE NEIGHBOUR: 'it returns false'. Refute it at one input. -/
def naiveClosedWrong : ChangeSpec := { name := "naiveClosed", fn := fun _ => fun
  | [d1, d2] => { results := [.lit (.bool false)], args := [d1, d2] }
  | _ => none }
def NaiveClosedWrongFalsely : Prop := naiveClosedRow.holds Tryz.pinned (OpenSpec.ofChange naiveClosedWrong)

/-- 'treillagelaw.NaiveLeast': WHATEVER THE INPUT: true; the input reads as it did. -/
def naiveLeastSpec : ChangeSpec := { name := "naiveLeast", fn := fun _ => fun
  | [d1, d2] => { results := [.lit (.bool true)], args := [d1, d2] }
  | _ => none }
def naiveLeastRow : OpenClaim := { program := "ytgblgeddpegplaagreat", sum := "0f957073802c1f4ac8665f615808d47618f7e651efdac17cb875fc6ec0e4ed03", func := "treillage/treillagelaw.NaiveLeast", spec := "naiveLeast", inPlace := ["slices.overlaps[treillage/api.Fact]"], unfollowed := true, recurses := true, apart := false }
def NaiveLeastSaid : Prop := naiveLeastRow.holds Tryz.pinned (OpenSpec.ofChange naiveLeastSpec)

/-- ITS FALSE NEIGHBOUR: 'it returns false'. Refute it at one input. -/
def naiveLeastWrong : ChangeSpec := { name := "naiveLeast", fn := fun _ => fun
  | [d1, d2] => { results := [.lit (.bool false)], args := [d1, d2] }
  | _ => none }
def NaiveLeastWrongFalsely : Prop := naiveLeastRow.holds Tryz.pinned (OpenSpec.ofChange naiveLeastWrong)

/-- 'treillagelaw.AskMatches': WHATEVER THE INPUT: true; the input reads as it did. -/
def askMatchesSpec : ChangeSpec := { name := "askMatches", fn := fun _ => fun
  | [d1, d2, d3] => { results := [.lit (.bool true)], args := [d1, d2, d3] }
  | _ => none }
def askMatchesRow : OpenClaim := { program := "ytgblgeddpegplaagreat", sum := "0f957073802c1f4ac8665f615808d47618f7e651efdac17cb875fc6ec0e4ed03", func := "treillage/treillagelaw.AskMatches", spec := "askMatches", inPlace := ["slices.overlaps[treillage/api.Fact]"], unfollowed := true, recurses := true, apart := false }
def AskMatchesSaid : Prop := askMatchesRow.holds Tryz.pinned (OpenSpec.ofChange askMatchesSpec)

/-- ITS FALSE NEIGHBOUR: 'it returns false'. Refute it at one input. -/
def askMatchesWrong : ChangeSpec := { name := "askMatches", fn := fun _ => fun
  | [d1, d2, d3] => { results := [.lit (.bool false)], args := [d1, d2, d3] }
  | _ => none }
def AskMatchesWrongFalsely : Prop := askMatchesRow.holds Tryz.pinned (OpenSpec.ofChange askMatchesWrong)

/-- 'treillagelaw.AskOnly': WHATEVER THE INPUT: true; the input reads as it did. -/
def askOnlySpec : ChangeSpec := { name := "askOnly", fn := fun _ => fun
  | [d1, d2] => { results := [.lit (.bool true)], args := [d1, d2] }
  | _ => none }
def askOnlyRow : OpenClaim := { program := "ytgblgeddpegplaagreat", sum := "0f957073802c1f4ac8665f615808d47618f7e651efdac17cb875fc6ec0e4ed03", func := "treillage/treillagelaw.AskOnly", spec := "askOnly", inPlace := ["slices.overlaps[treillage/api.Fact]"], unfollowed := true, recurses := true, apart := false }
def AskOnlySaid : Prop := askOnlyRow.holds Tryz.pinned (OpenSpec.ofChange askOnlySpec)

/-- ITS FALSE NEIGHBOUR: 'it returns false'. Refute it at one input. -/
def askOnlyWrong : ChangeSpec := { name := "askOnly", fn := fun _ => fun
  | [d1, d2] => { results := [.lit (.bool false)], args := [d1, d2] }
  | _ => none }
def AskOnlyWrongFalsely : Prop := askOnlyRow.holds Tryz.pinned (OpenSpec.ofChange askOnlyWrong)

/-- 'treillagelaw.AskTrue': WHATEVER THE INPUT: true; the input reads as it did. -/
def askTrueSpec : ChangeSpec := { name := "askTrue", fn := fun _ => fun
  | [d1, d2, d3, d4] => { results := [.lit (.bool true)], args := [d1, d2, d3, d4] }
  | _ => none }
def askTrueRow : OpenClaim := { program := "ytgblgeddpegplaagreat", sum := "0f957073802c1f4ac8665f615808d47618f7e651efdac17cb875fc6ec0e4ed03", func := "treillage/treillagelaw.AskTrue", spec := "askTrue", inPlace := ["slices.overlaps[treillage/api.Fact]"], unfollowed := true, recurses := true, apart := false }
def AskTrueSaid : Prop := askTrueRow.holds Tryz.pinned (OpenSpec.ofChange askTrueSpec)

/-- ITS FALSE NEIGHBOUR: 'it returns false'. Refute it at one input. -/
def askTrueWrong : ChangeSpec := { name := "askTrue", fn := fun _ => fun
  | [d1, d2, d3, d4] => { results := [.lit (.bool false)], args := [d1, d2, d3, d4] }
  | _ => none }
def AskTrueWrongFalsely : Prop := askTrueRow.holds Tryz.pinned (OpenSpec.ofChange askTrueWrong)

/-- 'treillagelaw.SumMore': WHATEVER THE INPUT: true; the input reads as it did. -/
def sumMoreSpec : ChangeSpec := { name := "sumMore", fn := fun _ => fun
  | [d1, d2] => { results := [.lit (.bool true)], args := [d1, d2] }
  | _ => none }
def sumMoreRow : OpenClaim := { program := "ytgblgeddpegplaagreat", sum := "0f957073802c1f4ac8665f615808d47618f7e651efdac17cb875fc6ec0e4ed03", func := "treillage/treillagelaw.SumMore", spec := "sumMore", inPlace := ["slices.overlaps[treillage/api.Fact]"], unfollowed := true, recurses := true, apart := false }
def SumMoreSaid : Prop := sumMoreRow.holds Tryz.pinned (OpenSpec.ofChange sumMoreSpec)

/-- ITS FALSE NEIGHBOUR: 'it returns false'. Refute it at one input. -/
def sumMoreWrong : ChangeSpec := { name := "sumMore", fn := fun _ => fun
  | [d1, d2] => { results := [.lit (.bool false)], args := [d1, d2] }
  | _ => none }
def SumMoreWrongFalsely : Prop := sumMoreRow.holds Tryz.pinned (OpenSpec.ofChange sumMoreWrong)

/-- 'treillagelaw.SumLess': WHATEVER THE INPUT: true; the input reads as it did. -/
def sumLessSpec : ChangeSpec := { name := "sumLess", fn := fun _ => fun
  | [d1, d2] => { results := [.lit (.bool true)], args := [d1, d2] }
  | _ => none }
def sumLessRow : OpenClaim := { program := "ytgblgeddpegplaagreat", sum := "0f957073802c1f4ac8665f615808d47618f7e651efdac17cb875fc6ec0e4ed03", func := "treillage/treillagelaw.SumLess", spec := "sumLess", inPlace := ["slices.overlaps[treillage/api.Fact]"], unfollowed := true, recurses := true, apart := false }
def SumLessSaid : Prop := sumLessRow.holds Tryz.pinned (OpenSpec.ofChange sumLessSpec)

/-- ITS FALSE NEIGHBOUR: 'it returns false'. Refute it at one input. -/
def sumLessWrong : ChangeSpec := { name := "sumLess", fn := fun _ => fun
  | [d1, d2] => { results := [.lit (.bool false)], args := [d1, d2] }
  | _ => none }
def SumLessWrongFalsely : Prop := sumLessRow.holds Tryz.pinned (OpenSpec.ofChange sumLessWrong)

/-- 'treillagelaw.TraceSame': WHATEVER THE INPUT: true; the input reads as it did. -/
def traceSameSpec : ChangeSpec := { name := "traceSame", fn := fun _ => fun
  | [d1, d2] => { results := [.lit (.bool true)], args := [d1, d2] }
  | _ => none }
def traceSameRow : OpenClaim := { program := "ytgblgeddpegplaagreat", sum := "0f957073802c1f4ac8665f615808d47618f7e651efdac17cb875fc6ec0e4ed03", func := "treillage/treillagelaw.TraceSame", spec := "traceSame", inPlace := ["slices.overlaps[treillage/api.Fact]"], unfollowed := true, recurses := true, apart := false }
def TraceSameSaid : Prop := traceSameRow.holds Tryz.pinned (OpenSpec.ofChange traceSameSpec)

/-- ITS FALSE NEIGHBOUR: 'it returns false'. Refute it at one input. -/
def traceSameWrong : ChangeSpec := { name := "traceSame", fn := fun _ => fun
  | [d1, d2] => { results := [.lit (.bool false)], args := [d1, d2] }
  | _ => none }
def TraceSameWrongFalsely : Prop := traceSameRow.holds Tryz.pinned (OpenSpec.ofChange traceSameWrong)

/-- 'treillagelaw.TraceSound': WHATEVER THE INPUT: true; the input reads as it did. -/
def traceSoundSpec : ChangeSpec := { name := "traceSound", fn := fun _ => fun
  | [d1, d2] => { results := [.lit (.bool true)], args := [d1, d2] }
  | _ => none }
def traceSoundRow : OpenClaim := { program := "ytgblgeddpegplaagreat", sum := "0f957073802c1f4ac8665f615808d47618f7e651efdac17cb875fc6ec0e4ed03", func := "treillage/treillagelaw.TraceSound", spec := "traceSound", inPlace := ["slices.overlaps[treillage/api.Fact]"], unfollowed := true, recurses := true, apart := false }
def TraceSoundSaid : Prop := traceSoundRow.holds Tryz.pinned (OpenSpec.ofChange traceSoundSpec)

/-- ITS FALSE NEIGHBOUR: 'it returns false'. Refute it at one input. -/
def traceSoundWrong : ChangeSpec := { name := "traceSound", fn := fun _ => fun
  | [d1, d2] => { results := [.lit (.bool false)], args := [d1, d2] }
  | _ => none }
def TraceSoundWrongFalsely : Prop := traceSoundRow.holds Tryz.pinned (OpenSpec.ofChange traceSoundWrong)

/- THE SECOND FORM. 'bulk': how many values and letters a reading holds, each counted each time it is reached (what is shared counts as often as it is met; a slice's spare places count too). A statement '..UptoSaid' is the law's where the arguments, and the package variables that the reading takes, are together of bulk at most 1048576: NARROWER than '..Said'. Prove '..Said' where nothing that the law and all that it calls make is longer than what came in: it says more and counts as full. Else prove '..UptoSaid'. A law counts once. -/
mutual
def uptoBulk {H : Type} : DataW H → Nat
  | .lit (.string bytes) => bytes.length + 1
  | .lit _ => 1
  | .nil => 1
  | .ptr d => uptoBulk d + 1
  | .slice elems spare => uptoBulkAll elems + uptoBulkAll spare + 1
  | .agg parts => uptoBulkAll parts + 1
  | .iface _ d => uptoBulk d + 1
  | .map entries => uptoBulkEntries entries + 1
  | .held _ => 1
def uptoBulkAll {H : Type} : List (DataW H) → Nat
  | [] => 0
  | d :: r => uptoBulk d + uptoBulkAll r
def uptoBulkEntries {H : Type} : List (Lit × DataW H) → Nat
  | [] => 0
  | x :: r => uptoBulkEntry x + uptoBulkEntries r
def uptoBulkEntry {H : Type} : Lit × DataW H → Nat
  | (.string bytes, d) => bytes.length + uptoBulk d + 1
  | (_, d) => uptoBulk d + 1
 end
def uptoSmall : (H : Type) → List (DataW H) → Bool := fun _ ds => decide (uptoBulkAll ds ≤ 1048576)
def OpenSpec.upto (s : _root_.Go.ChangeSpec) : _root_.Go.OpenSpec := { _root_.Go.OpenSpec.ofChange s with cond := some uptoSmall }

/-- 'treillagelaw.SemiTells', WHERE WHAT IT READS IS OF BULK AT MOST 1048576: true; the input reads as it did. -/
def semiTellsUptoRow : OpenClaim := { program := "ytgblgeddpegplaagreat", sum := "0f957073802c1f4ac8665f615808d47618f7e651efdac17cb875fc6ec0e4ed03", func := "treillage/treillagelaw.SemiTells", spec := "semiTells", inPlace := ["slices.overlaps[treillage/api.Fact]"], unfollowed := true, recurses := true, apart := false, narrowed := true }
def SemiTellsUptoSaid : Prop := semiTellsUptoRow.holds Tryz.pinned (OpenSpec.upto semiTellsSpec)

/-- 'treillagelaw.TraceTells', WHERE WHAT IT READS IS OF BULK AT MOST 1048576: true; the input reads as it did. -/
def traceTellsUptoRow : OpenClaim := { program := "ytgblgeddpegplaagreat", sum := "0f957073802c1f4ac8665f615808d47618f7e651efdac17cb875fc6ec0e4ed03", func := "treillage/treillagelaw.TraceTells", spec := "traceTells", inPlace := ["slices.overlaps[treillage/api.Fact]"], unfollowed := true, recurses := true, apart := false, narrowed := true }
def TraceTellsUptoSaid : Prop := traceTellsUptoRow.holds Tryz.pinned (OpenSpec.upto traceTellsSpec)

/-- 'treillagelaw.TraceReplays', WHERE WHAT IT READS IS OF BULK AT MOST 1048576: true; the input reads as it did. -/
def traceReplaysUptoRow : OpenClaim := { program := "ytgblgeddpegplaagreat", sum := "0f957073802c1f4ac8665f615808d47618f7e651efdac17cb875fc6ec0e4ed03", func := "treillage/treillagelaw.TraceReplays", spec := "traceReplays", inPlace := ["slices.overlaps[treillage/api.Fact]"], unfollowed := true, recurses := true, apart := false, narrowed := true }
def TraceReplaysUptoSaid : Prop := traceReplaysUptoRow.holds Tryz.pinned (OpenSpec.upto traceReplaysSpec)

/-- 'treillagelaw.NaiveTells', WHERE WHAT IT READS IS OF BULK AT MOST 1048576: true; the input reads as it did. -/
def naiveTellsUptoRow : OpenClaim := { program := "ytgblgeddpegplaagreat", sum := "0f957073802c1f4ac8665f615808d47618f7e651efdac17cb875fc6ec0e4ed03", func := "treillage/treillagelaw.NaiveTells", spec := "naiveTells", inPlace := ["slices.overlaps[treillage/api.Fact]"], unfollowed := true, recurses := true, apart := false, narrowed := true }
def NaiveTellsUptoSaid : Prop := naiveTellsUptoRow.holds Tryz.pinned (OpenSpec.upto naiveTellsSpec)

/-- 'treillagelaw.RestProgs', WHERE WHAT IT READS IS OF BULK AT MOST 1048576: true; the input reads as it did. -/
def restProgsUptoRow : OpenClaim := { program := "ytgblgeddpegplaagreat", sum := "0f957073802c1f4ac8665f615808d47618f7e651efdac17cb875fc6ec0e4ed03", func := "treillage/treillagelaw.RestProgs", spec := "restProgs", inPlace := ["slices.overlaps[treillage/api.Fact]"], unfollowed := true, recurses := true, apart := false, narrowed := true }
def RestProgsUptoSaid : Prop := restProgsUptoRow.holds Tryz.pinned (OpenSpec.upto restProgsSpec)

/-- 'treillagelaw.NaiveClosed', WHERE WHAT IT READS IS OF BULK AT MOST 1048576: true; the input reads as it did. -/
def naiveClosedUptoRow : OpenClaim := { program := "ytgblgeddpegplaagreat", sum := "0f957073802c1f4ac8665f615808d47618f7e651efdac17cb875fc6ec0e4ed03", func := "treillage/treillagelaw.NaiveClosed", spec := "naiveClosed", inPlace := ["slices.overlaps[treillage/api.Fact]"], unfollowed := true, recurses := true, apart := false, narrowed := true }
def NaiveClosedUptoSaid : Prop := naiveClosedUptoRow.holds Tryz.pinned (OpenSpec.upto naiveClosedSpec)

/-- 'treillagelaw.NaiveLeast', WHERE WHAT IT READS IS OF BULK AT MOST 1048576: true; the input reads as it did. -/
def naiveLeastUptoRow : OpenClaim := { program := "ytgblgeddpegplaagreat", sum := "0f957073802c1f4ac8665f615808d47618f7e651efdac17cb875fc6ec0e4ed03", func := "treillage/treillagelaw.NaiveLeast", spec := "naiveLeast", inPlace := ["slices.overlaps[treillage/api.Fact]"], unfollowed := true, recurses := true, apart := false, narrowed := true }
def NaiveLeastUptoSaid : Prop := naiveLeastUptoRow.holds Tryz.pinned (OpenSpec.upto naiveLeastSpec)

/-- 'treillagelaw.AskMatches', WHERE WHAT IT READS IS OF BULK AT MOST 1048576: true; the input reads as it did. -/
def askMatchesUptoRow : OpenClaim := { program := "ytgblgeddpegplaagreat", sum := "0f957073802c1f4ac8665f615808d47618f7e651efdac17cb875fc6ec0e4ed03", func := "treillage/treillagelaw.AskMatches", spec := "askMatches", inPlace := ["slices.overlaps[treillage/api.Fact]"], unfollowed := true, recurses := true, apart := false, narrowed := true }
def AskMatchesUptoSaid : Prop := askMatchesUptoRow.holds Tryz.pinned (OpenSpec.upto askMatchesSpec)

/-- 'treillagelaw.AskOnly', WHERE WHAT IT READS IS OF BULK AT MOST 1048576: true; the input reads as it did. -/
def askOnlyUptoRow : OpenClaim := { program := "ytgblgeddpegplaagreat", sum := "0f957073802c1f4ac8665f615808d47618f7e651efdac17cb875fc6ec0e4ed03", func := "treillage/treillagelaw.AskOnly", spec := "askOnly", inPlace := ["slices.overlaps[treillage/api.Fact]"], unfollowed := true, recurses := true, apart := false, narrowed := true }
def AskOnlyUptoSaid : Prop := askOnlyUptoRow.holds Tryz.pinned (OpenSpec.upto askOnlySpec)

/-- 'treillagelaw.AskTrue', WHERE WHAT IT READS IS OF BULK AT MOST 1048576: true; the input reads as it did. -/
def askTrueUptoRow : OpenClaim := { program := "ytgblgeddpegplaagreat", sum := "0f957073802c1f4ac8665f615808d47618f7e651efdac17cb875fc6ec0e4ed03", func := "treillage/treillagelaw.AskTrue", spec := "askTrue", inPlace := ["slices.overlaps[treillage/api.Fact]"], unfollowed := true, recurses := true, apart := false, narrowed := true }
def AskTrueUptoSaid : Prop := askTrueUptoRow.holds Tryz.pinned (OpenSpec.upto askTrueSpec)

/-- 'treillagelaw.SumMore', WHERE WHAT IT READS IS OF BULK AT MOST 1048576: true; the input reads as it did. -/
def sumMoreUptoRow : OpenClaim := { program := "ytgblgeddpegplaagreat", sum := "0f957073802c1f4ac8665f615808d47618f7e651efdac17cb875fc6ec0e4ed03", func := "treillage/treillagelaw.SumMore", spec := "sumMore", inPlace := ["slices.overlaps[treillage/api.Fact]"], unfollowed := true, recurses := true, apart := false, narrowed := true }
def SumMoreUptoSaid : Prop := sumMoreUptoRow.holds Tryz.pinned (OpenSpec.upto sumMoreSpec)

/-- 'treillagelaw.SumLess', WHERE WHAT IT READS IS OF BULK AT MOST 1048576: true; the input reads as it did. -/
def sumLessUptoRow : OpenClaim := { program := "ytgblgeddpegplaagreat", sum := "0f957073802c1f4ac8665f615808d47618f7e651efdac17cb875fc6ec0e4ed03", func := "treillage/treillagelaw.SumLess", spec := "sumLess", inPlace := ["slices.overlaps[treillage/api.Fact]"], unfollowed := true, recurses := true, apart := false, narrowed := true }
def SumLessUptoSaid : Prop := sumLessUptoRow.holds Tryz.pinned (OpenSpec.upto sumLessSpec)

/-- 'treillagelaw.TraceSame', WHERE WHAT IT READS IS OF BULK AT MOST 1048576: true; the input reads as it did. -/
def traceSameUptoRow : OpenClaim := { program := "ytgblgeddpegplaagreat", sum := "0f957073802c1f4ac8665f615808d47618f7e651efdac17cb875fc6ec0e4ed03", func := "treillage/treillagelaw.TraceSame", spec := "traceSame", inPlace := ["slices.overlaps[treillage/api.Fact]"], unfollowed := true, recurses := true, apart := false, narrowed := true }
def TraceSameUptoSaid : Prop := traceSameUptoRow.holds Tryz.pinned (OpenSpec.upto traceSameSpec)

/-- 'treillagelaw.TraceSound', WHERE WHAT IT READS IS OF BULK AT MOST 1048576: true; the input reads as it did. -/
def traceSoundUptoRow : OpenClaim := { program := "ytgblgeddpegplaagreat", sum := "0f957073802c1f4ac8665f615808d47618f7e651efdac17cb875fc6ec0e4ed03", func := "treillage/treillagelaw.TraceSound", spec := "traceSound", inPlace := ["slices.overlaps[treillage/api.Fact]"], unfollowed := true, recurses := true, apart := false, narrowed := true }
def TraceSoundUptoSaid : Prop := traceSoundUptoRow.holds Tryz.pinned (OpenSpec.upto traceSoundSpec)

end Rows
end Go.Proofs.YtgblgeddpegplaaGreat
