/-
  No cell of these rows narrows 'for every input' (looked for: loops, veiled, ifaces, maps, wideKeys, modest, calm, conditions, laid).
  DERIVED. THE GIVEN ROWS OF THIS SEAT. 8 by the template 'for every input the law returns true; each argument reads behind the call as it read before'; 0 by the template 'total and deterministic' (their statements: YthfchmdfoaiibaaTotals.lean).
  GIVEN WITH THE SEED: the statements are not yours to turn. If you find one false, say at which input.
  Laid BY PROGRAM, IN A SANDBOX (cutbox-rows.mjs): the forced cells as the released guide's own fill.sh prints them over the translation 8565fac491b33b36… (all of the seat's roots in one cut). By AI agents, Wed Nov 11 2026. No macro, syntax, notation, axiom, sorry.
-/
import Derived.Test.YthfchmdfoaiibaaChecked
import GoSem.Claim
import GoSem.ClaimJoined
import GoSem.ClaimMapViews
import Derived.JoinedTies
import Derived.KernelRfl
namespace Go.Proofs.Ythfchmdfoaiibaa
/- THE CELL 'sum', in the pinned program and in every row, IS THE sha256 OF THE DUMP (.gsa) THAT YthfchmdfoaiibaaProg.lean LOADS. Nothing in Lean hashes anything: it is a label: what it is worth is what the hold of that sum in a sandbox is worth. -/
noncomputable def Try.pinned : Pinned := { name := "ythfchmdfoaiibaa", sum := "8565fac491b33b36782b65262d5efba60eef8cd9e64a3e6be6afdb52507bca97", checked := Try.checked }
namespace Rows
def none {H : Type} : Left H := { results := [], args := [] }

/-- 'stemmalaw13.LogFits': WHATEVER THE INPUT: true; the input reads as it did. -/
def logFitsSpec : ChangeSpec := { name := "logFits", fn := fun _ => fun
  | [d1, d2, d3] => { results := [.lit (.bool true)], args := [d1, d2, d3] }
  | _ => none }
def logFitsRow : OpenClaim := { program := "ythfchmdfoaiibaa", sum := "8565fac491b33b36782b65262d5efba60eef8cd9e64a3e6be6afdb52507bca97", func := "stemma/stemmalaw13.LogFits", spec := "logFits", unfollowed := true, recurses := true, apart := false }
def LogFitsSaid : Prop := logFitsRow.holds Try.pinned (OpenSpec.ofChange logFitsSpec)

/-- ITS FALSE NEIGHBOUR: 'it returns false'. Refute it at one input. -/
def logFitsWrong : ChangeSpec := { name := "logFits", fn := fun _ => fun
  | [d1, d2, d3] => { results := [.lit (.bool false)], args := [d1, d2, d3] }
  | _ => none }
def LogFitsWrongFalsely : Prop := logFitsRow.holds Try.pinned (OpenSpec.ofChange logFitsWrong)

/-- 'stemmalaw13.LogJoins': WHATEVER THE INPUT: true; the input reads as it did. -/
def logJoinsSpec : ChangeSpec := { name := "logJoins", fn := fun _ => fun
  | [d1, d2, d3] => { results := [.lit (.bool true)], args := [d1, d2, d3] }
  | _ => none }
def logJoinsRow : OpenClaim := { program := "ythfchmdfoaiibaa", sum := "8565fac491b33b36782b65262d5efba60eef8cd9e64a3e6be6afdb52507bca97", func := "stemma/stemmalaw13.LogJoins", spec := "logJoins", unfollowed := true, recurses := true, apart := false }
def LogJoinsSaid : Prop := logJoinsRow.holds Try.pinned (OpenSpec.ofChange logJoinsSpec)

/-- ITS FALSE NEIGHBOUR: 'it returns false'. Refute it at one input. -/
def logJoinsWrong : ChangeSpec := { name := "logJoins", fn := fun _ => fun
  | [d1, d2, d3] => { results := [.lit (.bool false)], args := [d1, d2, d3] }
  | _ => none }
def LogJoinsWrongFalsely : Prop := logJoinsRow.holds Try.pinned (OpenSpec.ofChange logJoinsWrong)

/-- 'stemmalaw13.LogFolds': WHATEVER THE INPUT: true; the input reads as it did. -/
def logFoldsSpec : ChangeSpec := { name := "logFolds", fn := fun _ => fun
  | [d1, d2] => { results := [.lit (.bool true)], args := [d1, d2] }
  | _ => none }
def logFoldsRow : OpenClaim := { program := "ythfchmdfoaiibaa", sum := "8565fac491b33b36782b65262d5efba60eef8cd9e64a3e6be6afdb52507bca97", func := "stemma/stemmalaw13.LogFolds", spec := "logFolds", unfollowed := true, recurses := true, apart := false }
def LogFoldsSaid : Prop := logFoldsRow.holds Try.pinned (OpenSpec.ofChange logFoldsSpec)

/-- ITS FALSE NEIGHBOUR: 'it returns false'. Refute it at one input. -/
def logFoldsWrong : ChangeSpec := { name := "logFolds", fn := fun _ => fun
  | [d1, d2] => { results := [.lit (.bool false)], args := [d1, d2] }
  | _ => none }
def LogFoldsWrongFalsely : Prop := logFoldsRow.holds Try.pinned (OpenSpec.ofChange logFoldsWrong)

/-- 'stemmalaw13.LogGrows': WHATEVER THE INPUT: true; the input reads as it did. -/
def logGrowsSpec : ChangeSpec := { name := "logGrows", fn := fun _ => fun
  | [d1, d2, d3] => { results := [.lit (.bool true)], args := [d1, d2, d3] }
  | _ => none }
def logGrowsRow : OpenClaim := { program := "ythfchmdfoaiibaa", sum := "8565fac491b33b36782b65262d5efba60eef8cd9e64a3e6be6afdb52507bca97", func := "stemma/stemmalaw13.LogGrows", spec := "logGrows", unfollowed := true, recurses := true, apart := false }
def LogGrowsSaid : Prop := logGrowsRow.holds Try.pinned (OpenSpec.ofChange logGrowsSpec)

/-- ITS FALSE NEIGHBOUR: 'it returns false'. Refute it at one input. -/
def logGrowsWrong : ChangeSpec := { name := "logGrows", fn := fun _ => fun
  | [d1, d2, d3] => { results := [.lit (.bool false)], args := [d1, d2, d3] }
  | _ => none }
def LogGrowsWrongFalsely : Prop := logGrowsRow.holds Try.pinned (OpenSpec.ofChange logGrowsWrong)

/-- 'stemmalaw13.LogFurther': WHATEVER THE INPUT: true; the input reads as it did. -/
def logFurtherSpec : ChangeSpec := { name := "logFurther", fn := fun _ => fun
  | [d1, d2] => { results := [.lit (.bool true)], args := [d1, d2] }
  | _ => none }
def logFurtherRow : OpenClaim := { program := "ythfchmdfoaiibaa", sum := "8565fac491b33b36782b65262d5efba60eef8cd9e64a3e6be6afdb52507bca97", func := "stemma/stemmalaw13.LogFurther", spec := "logFurther", unfollowed := true, recurses := true, apart := false }
def LogFurtherSaid : Prop := logFurtherRow.holds Try.pinned (OpenSpec.ofChange logFurtherSpec)

/-- ITS FALSE NEIGHBOUR: 'it returns false'. Refute it at one input. -/
def logFurtherWrong : ChangeSpec := { name := "logFurther", fn := fun _ => fun
  | [d1, d2] => { results := [.lit (.bool false)], args := [d1, d2] }
  | _ => none }
def LogFurtherWrongFalsely : Prop := logFurtherRow.holds Try.pinned (OpenSpec.ofChange logFurtherWrong)

/-- 'stemmalaw13.LogChecks': WHATEVER THE INPUT: true; the input reads as it did. -/
def logChecksSpec : ChangeSpec := { name := "logChecks", fn := fun _ => fun
  | [d1, d2] => { results := [.lit (.bool true)], args := [d1, d2] }
  | _ => none }
def logChecksRow : OpenClaim := { program := "ythfchmdfoaiibaa", sum := "8565fac491b33b36782b65262d5efba60eef8cd9e64a3e6be6afdb52507bca97", func := "stemma/stemmalaw13.LogChecks", spec := "logChecks", unfollowed := true, recurses := true, apart := false }
def LogChecksSaid : Prop := logChecksRow.holds Try.pinned (OpenSpec.ofChange logChecksSpec)

/-- ITS FALSE NEIGHBOUR: 'it returns false'. Refute it at one input. -/
def logChecksWrong : ChangeSpec := { name := "logChecks", fn := fun _ => fun
  | [d1, d2] => { results := [.lit (.bool false)], args := [d1, d2] }
  | _ => none }
def LogChecksWrongFalsely : Prop := logChecksRow.holds Try.pinned (OpenSpec.ofChange logChecksWrong)

/-- 'stemmalaw13.LogJoined': WHATEVER THE INPUT: true; the input reads as it did. -/
def logJoinedSpec : ChangeSpec := { name := "logJoined", fn := fun _ => fun
  | [d1, d2, d3] => { results := [.lit (.bool true)], args := [d1, d2, d3] }
  | _ => none }
def logJoinedRow : OpenClaim := { program := "ythfchmdfoaiibaa", sum := "8565fac491b33b36782b65262d5efba60eef8cd9e64a3e6be6afdb52507bca97", func := "stemma/stemmalaw13.LogJoined", spec := "logJoined", unfollowed := true, recurses := true, apart := false }
def LogJoinedSaid : Prop := logJoinedRow.holds Try.pinned (OpenSpec.ofChange logJoinedSpec)

/-- ITS FALSE NEIGHBOUR: 'it returns false'. Refute it at one input. -/
def logJoinedWrong : ChangeSpec := { name := "logJoined", fn := fun _ => fun
  | [d1, d2, d3] => { results := [.lit (.bool false)], args := [d1, d2, d3] }
  | _ => none }
def LogJoinedWrongFalsely : Prop := logJoinedRow.holds Try.pinned (OpenSpec.ofChange logJoinedWrong)

/-- 'stemmalaw13.LogKnown': WHATEVER THE INPUT: true; the input reads as it did. -/
def logKnownSpec : ChangeSpec := { name := "logKnown", fn := fun _ => fun
  | [] => { results := [.lit (.bool true)], args := [] }
  | _ => none }
def logKnownRow : OpenClaim := { program := "ythfchmdfoaiibaa", sum := "8565fac491b33b36782b65262d5efba60eef8cd9e64a3e6be6afdb52507bca97", func := "stemma/stemmalaw13.LogKnown", spec := "logKnown", unfollowed := true, recurses := true, apart := false }
def LogKnownSaid : Prop := logKnownRow.holds Try.pinned (OpenSpec.ofChange logKnownSpec)

/-- ITS FALSE NEIGHBOUR: 'it returns false'. Refute it at one input. -/
def logKnownWrong : ChangeSpec := { name := "logKnown", fn := fun _ => fun
  | [] => { results := [.lit (.bool false)], args := [] }
  | _ => none }
def LogKnownWrongFalsely : Prop := logKnownRow.holds Try.pinned (OpenSpec.ofChange logKnownWrong)

/- THE SECOND FORM. 'bulk': how many values and letters a reading holds, each counted each time it is reached (what is shared counts as often as it is met; a slice's spare places count too). A statement '..UptoSaid' is the law's where the arguments, and the package variables that the reading takes, are together of bulk at most 1048576: NARROWER than '..Said'. Prove '..Said' where nothing that the law and all that it calls make is longer than what came in: it says more and counts as full. Else prove '..UptoSaid'. A law counts once. -/
mutual
def uptoBulk {H : Type} : DataW H → Nat
  | .lit (.string bytes) => bytes.length + 1
  | .lit _ => 1
  | .nil => 1
  | .ptr d => uptoBulk d + 1
  | .slice elems spare => uptoBulkAll elems + uptoBulkAll spare + 1
  | .agg parts => uptoBulkAll parts + 1
  | .iface _ d => uptoBulk d + 1
  | .map entries => uptoBulkEntries entries + 1
  | .held _ => 1
def uptoBulkAll {H : Type} : List (DataW H) → Nat
  | [] => 0
  | d :: r => uptoBulk d + uptoBulkAll r
def uptoBulkEntries {H : Type} : List (Lit × DataW H) → Nat
  | [] => 0
  | x :: r => uptoBulkEntry x + uptoBulkEntries r
def uptoBulkEntry {H : Type} : Lit × DataW H → Nat
  | (.string bytes, d) => bytes.length + uptoBulk d + 1
  | (_, d) => uptoBulk d + 1
 end
def uptoSmall : (H : Type) → List (DataW H) → Bool := fun _ ds => decide (uptoBulkAll ds ≤ 1048576)
def OpenSpec.upto (s : _root_.Go.ChangeSpec) : _root_.Go.OpenSpec := { _root_.Go.OpenSpec.ofChange s with cond := some uptoSmall }

/-- 'stemmalaw13.LogFits', WHERE WHAT IT READS IS OF BULK AT MOST 1048576: true; the input reads as it did. -/
def logFitsUptoRow : OpenClaim := { program := "ythfchmdfoaiibaa", sum := "8565fac491b33b36782b65262d5efba60eef8cd9e64a3e6be6afdb52507bca97", func := "stemma/stemmalaw13.LogFits", spec := "logFits", unfollowed := true, recurses := true, apart := false, narrowed := true }
def LogFitsUptoSaid : Prop := logFitsUptoRow.holds Try.pinned (OpenSpec.upto logFitsSpec)

/-- 'stemmalaw13.LogJoins', WHERE WHAT IT READS IS OF BULK AT MOST 1048576: true; the input reads as it did. -/
def logJoinsUptoRow : OpenClaim := { program := "ythfchmdfoaiibaa", sum := "8565fac491b33b36782b65262d5efba60eef8cd9e64a3e6be6afdb52507bca97", func := "stemma/stemmalaw13.LogJoins", spec := "logJoins", unfollowed := true, recurses := true, apart := false, narrowed := true }
def LogJoinsUptoSaid : Prop := logJoinsUptoRow.holds Try.pinned (OpenSpec.upto logJoinsSpec)

/-- 'stemmalaw13.LogFolds', WHERE WHAT IT READS IS OF BULK AT MOST 1048576: true; the input reads as it did. -/
def logFoldsUptoRow : OpenClaim := { program := "ythfchmdfoaiibaa", sum := "8565fac491b33b36782b65262d5efba60eef8cd9e64a3e6be6afdb52507bca97", func := "stemma/stemmalaw13.LogFolds", spec := "logFolds", unfollowed := true, recurses := true, apart := false, narrowed := true }
def LogFoldsUptoSaid : Prop := logFoldsUptoRow.holds Try.pinned (OpenSpec.upto logFoldsSpec)

/-- 'stemmalaw13.LogGrows', WHERE WHAT IT READS IS OF BULK AT MOST 1048576: true; the input reads as it did. -/
def logGrowsUptoRow : OpenClaim := { program := "ythfchmdfoaiibaa", sum := "8565fac491b33b36782b65262d5efba60eef8cd9e64a3e6be6afdb52507bca97", func := "stemma/stemmalaw13.LogGrows", spec := "logGrows", unfollowed := true, recurses := true, apart := false, narrowed := true }
def LogGrowsUptoSaid : Prop := logGrowsUptoRow.holds Try.pinned (OpenSpec.upto logGrowsSpec)

/-- 'stemmalaw13.LogFurther', WHERE WHAT IT READS IS OF BULK AT MOST 1048576: true; the input reads as it did. -/
def logFurtherUptoRow : OpenClaim := { program := "ythfchmdfoaiibaa", sum := "8565fac491b33b36782b65262d5efba60eef8cd9e64a3e6be6afdb52507bca97", func := "stemma/stemmalaw13.LogFurther", spec := "logFurther", unfollowed := true, recurses := true, apart := false, narrowed := true }
def LogFurtherUptoSaid : Prop := logFurtherUptoRow.holds Try.pinned (OpenSpec.upto logFurtherSpec)

/-- 'stemmalaw13.LogChecks', WHERE WHAT IT READS IS OF BULK AT MOST 1048576: true; the input reads as it did. -/
def logChecksUptoRow : OpenClaim := { program := "ythfchmdfoaiibaa", sum := "8565fac491b33b36782b65262d5efba60eef8cd9e64a3e6be6afdb52507bca97", func := "stemma/stemmalaw13.LogChecks", spec := "logChecks", unfollowed := true, recurses := true, apart := false, narrowed := true }
def LogChecksUptoSaid : Prop := logChecksUptoRow.holds Try.pinned (OpenSpec.upto logChecksSpec)

/-- 'stemmalaw13.LogJoined', WHERE WHAT IT READS IS OF BULK AT MOST 1048576: true; the input reads as it did. -/
def logJoinedUptoRow : OpenClaim := { program := "ythfchmdfoaiibaa", sum := "8565fac491b33b36782b65262d5efba60eef8cd9e64a3e6be6afdb52507bca97", func := "stemma/stemmalaw13.LogJoined", spec := "logJoined", unfollowed := true, recurses := true, apart := false, narrowed := true }
def LogJoinedUptoSaid : Prop := logJoinedUptoRow.holds Try.pinned (OpenSpec.upto logJoinedSpec)

/-- 'stemmalaw13.LogKnown', WHERE WHAT IT READS IS OF BULK AT MOST 1048576: true; the input reads as it did. -/
def logKnownUptoRow : OpenClaim := { program := "ythfchmdfoaiibaa", sum := "8565fac491b33b36782b65262d5efba60eef8cd9e64a3e6be6afdb52507bca97", func := "stemma/stemmalaw13.LogKnown", spec := "logKnown", unfollowed := true, recurses := true, apart := false, narrowed := true }
def LogKnownUptoSaid : Prop := logKnownUptoRow.holds Try.pinned (OpenSpec.upto logKnownSpec)

end Rows
end Go.Proofs.Ythfchmdfoaiibaa
