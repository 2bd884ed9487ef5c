/-
  No cell of these rows narrows 'for every input' (looked for: loops, veiled, ifaces, maps, wideKeys, modest, calm, conditions, laid).
  DERIVED. THE GIVEN ROWS OF THIS SEAT. 6 by the template 'for every input the law returns true; each argument reads behind the call as it read before'; 0 by the template 'total and deterministic' (their statements: YtcgkdomfbkkboaaTotals.lean).
  GIVEN WITH THE SEED: the statements are not yours to turn. If you find one false, say at which input.
  Laid BY PROGRAM, IN A SANDBOX (cutbox-rows.mjs): the forced cells as the released guide's own fill.sh prints them over the translation c8c3dc5f7e373b25… (all of the seat's roots in one cut). By AI agents, Wed Nov 11 2026. No macro, syntax, notation, axiom, sorry.
-/
import Derived.Test.YtcgkdomfbkkboaaChecked
import GoSem.Claim
import GoSem.ClaimJoined
import GoSem.ClaimMapViews
import Derived.JoinedTies
import Derived.KernelRfl
namespace Go.Proofs.Ytcgkdomfbkkboaa
/- THE CELL 'sum', in the pinned program and in every row, IS THE sha256 OF THE DUMP (.gsa) THAT YtcgkdomfbkkboaaProg.lean LOADS. Nothing in Lean hashes anything: it is a label: what it is worth is what the hold of that sum in a sandbox is worth. -/
noncomputable def Try.pinned : Pinned := { name := "ytcgkdomfbkkboaa", sum := "c8c3dc5f7e373b254d417463e3bb0c47fdd3277672bfe1cf99791cf634ea7c2b", checked := Try.checked }
namespace Rows
def none {H : Type} : Left H := { results := [], args := [] }

/-- 'stemmalaw04.DiskFits': WHATEVER THE INPUT: true; the input reads as it did. -/
def diskFitsSpec : ChangeSpec := { name := "diskFits", fn := fun _ => fun
  | [d1, d2, d3] => { results := [.lit (.bool true)], args := [d1, d2, d3] }
  | _ => none }
def diskFitsRow : OpenClaim := { program := "ytcgkdomfbkkboaa", sum := "c8c3dc5f7e373b254d417463e3bb0c47fdd3277672bfe1cf99791cf634ea7c2b", func := "stemma/stemmalaw04.DiskFits", spec := "diskFits", unfollowed := true, recurses := true, apart := false }
def DiskFitsSaid : Prop := diskFitsRow.holds Try.pinned (OpenSpec.ofChange diskFitsSpec)

/-- ITS FALSE NEIGHBOUR: 'it returns false'. Refute it at one input. -/
def diskFitsWrong : ChangeSpec := { name := "diskFits", fn := fun _ => fun
  | [d1, d2, d3] => { results := [.lit (.bool false)], args := [d1, d2, d3] }
  | _ => none }
def DiskFitsWrongFalsely : Prop := diskFitsRow.holds Try.pinned (OpenSpec.ofChange diskFitsWrong)

/-- 'stemmalaw04.DiskWakes': WHATEVER THE INPUT: true; the input reads as it did. -/
def diskWakesSpec : ChangeSpec := { name := "diskWakes", fn := fun _ => fun
  | [d1, d2, d3] => { results := [.lit (.bool true)], args := [d1, d2, d3] }
  | _ => none }
def diskWakesRow : OpenClaim := { program := "ytcgkdomfbkkboaa", sum := "c8c3dc5f7e373b254d417463e3bb0c47fdd3277672bfe1cf99791cf634ea7c2b", func := "stemma/stemmalaw04.DiskWakes", spec := "diskWakes", unfollowed := true, recurses := true, apart := false }
def DiskWakesSaid : Prop := diskWakesRow.holds Try.pinned (OpenSpec.ofChange diskWakesSpec)

/-- ITS FALSE NEIGHBOUR: 'it returns false'. Refute it at one input. -/
def diskWakesWrong : ChangeSpec := { name := "diskWakes", fn := fun _ => fun
  | [d1, d2, d3] => { results := [.lit (.bool false)], args := [d1, d2, d3] }
  | _ => none }
def DiskWakesWrongFalsely : Prop := diskWakesRow.holds Try.pinned (OpenSpec.ofChange diskWakesWrong)

/-- 'stemmalaw04.DiskFuses': WHATEVER THE INPUT: true; the input reads as it did. -/
def diskFusesSpec : ChangeSpec := { name := "diskFuses", fn := fun _ => fun
  | [d] => { results := [.lit (.bool true)], args := [d] }
  | _ => none }
def diskFusesRow : OpenClaim := { program := "ytcgkdomfbkkboaa", sum := "c8c3dc5f7e373b254d417463e3bb0c47fdd3277672bfe1cf99791cf634ea7c2b", func := "stemma/stemmalaw04.DiskFuses", spec := "diskFuses", unfollowed := true, recurses := true, apart := false }
def DiskFusesSaid : Prop := diskFusesRow.holds Try.pinned (OpenSpec.ofChange diskFusesSpec)

/-- ITS FALSE NEIGHBOUR: 'it returns false'. Refute it at one input. -/
def diskFusesWrong : ChangeSpec := { name := "diskFuses", fn := fun _ => fun
  | [d] => { results := [.lit (.bool false)], args := [d] }
  | _ => none }
def DiskFusesWrongFalsely : Prop := diskFusesRow.holds Try.pinned (OpenSpec.ofChange diskFusesWrong)

/-- 'stemmalaw04.DiskRoom': WHATEVER THE INPUT: true; the input reads as it did. -/
def diskRoomSpec : ChangeSpec := { name := "diskRoom", fn := fun _ => fun
  | [d1, d2] => { results := [.lit (.bool true)], args := [d1, d2] }
  | _ => none }
def diskRoomRow : OpenClaim := { program := "ytcgkdomfbkkboaa", sum := "c8c3dc5f7e373b254d417463e3bb0c47fdd3277672bfe1cf99791cf634ea7c2b", func := "stemma/stemmalaw04.DiskRoom", spec := "diskRoom", unfollowed := true, recurses := true, apart := false }
def DiskRoomSaid : Prop := diskRoomRow.holds Try.pinned (OpenSpec.ofChange diskRoomSpec)

/-- ITS FALSE NEIGHBOUR: 'it returns false'. Refute it at one input. -/
def diskRoomWrong : ChangeSpec := { name := "diskRoom", fn := fun _ => fun
  | [d1, d2] => { results := [.lit (.bool false)], args := [d1, d2] }
  | _ => none }
def DiskRoomWrongFalsely : Prop := diskRoomRow.holds Try.pinned (OpenSpec.ofChange diskRoomWrong)

/-- 'stemmalaw04.DiskPlays': WHATEVER THE INPUT: true; the input reads as it did. -/
def diskPlaysSpec : ChangeSpec := { name := "diskPlays", fn := fun _ => fun
  | [d1, d2, d3] => { results := [.lit (.bool true)], args := [d1, d2, d3] }
  | _ => none }
def diskPlaysRow : OpenClaim := { program := "ytcgkdomfbkkboaa", sum := "c8c3dc5f7e373b254d417463e3bb0c47fdd3277672bfe1cf99791cf634ea7c2b", func := "stemma/stemmalaw04.DiskPlays", spec := "diskPlays", inPlace := ["maps.clone"], unfollowed := true, recurses := true, apart := false }
def DiskPlaysSaid : Prop := diskPlaysRow.holds Try.pinned (OpenSpec.ofChange diskPlaysSpec)

/-- ITS FALSE NEIGHBOUR: 'it returns false'. Refute it at one input. -/
def diskPlaysWrong : ChangeSpec := { name := "diskPlays", fn := fun _ => fun
  | [d1, d2, d3] => { results := [.lit (.bool false)], args := [d1, d2, d3] }
  | _ => none }
def DiskPlaysWrongFalsely : Prop := diskPlaysRow.holds Try.pinned (OpenSpec.ofChange diskPlaysWrong)

/-- 'stemmalaw04.DiskKnown': WHATEVER THE INPUT: true; the input reads as it did. -/
def diskKnownSpec : ChangeSpec := { name := "diskKnown", fn := fun _ => fun
  | [] => { results := [.lit (.bool true)], args := [] }
  | _ => none }
def diskKnownRow : OpenClaim := { program := "ytcgkdomfbkkboaa", sum := "c8c3dc5f7e373b254d417463e3bb0c47fdd3277672bfe1cf99791cf634ea7c2b", func := "stemma/stemmalaw04.DiskKnown", spec := "diskKnown", inPlace := ["maps.clone"], unfollowed := true, recurses := true, apart := false }
def DiskKnownSaid : Prop := diskKnownRow.holds Try.pinned (OpenSpec.ofChange diskKnownSpec)

/-- ITS FALSE NEIGHBOUR: 'it returns false'. Refute it at one input. -/
def diskKnownWrong : ChangeSpec := { name := "diskKnown", fn := fun _ => fun
  | [] => { results := [.lit (.bool false)], args := [] }
  | _ => none }
def DiskKnownWrongFalsely : Prop := diskKnownRow.holds Try.pinned (OpenSpec.ofChange diskKnownWrong)

/- THE SECOND FORM. 'bulk': how many values and letters a reading holds, each counted each time it is reached (what is shared counts as often as it is met; a slice's spare places count too). A statement '..UptoSaid' is the law's where the arguments, and the package variables that the reading takes, are together of bulk at most 1048576: NARROWER than '..Said'. Prove '..Said' where nothing that the law and all that it calls make is longer than what came in: it says more and counts as full. Else prove '..UptoSaid'. A law counts once. -/
mutual
def uptoBulk {H : Type} : DataW H → Nat
  | .lit (.string bytes) => bytes.length + 1
  | .lit _ => 1
  | .nil => 1
  | .ptr d => uptoBulk d + 1
  | .slice elems spare => uptoBulkAll elems + uptoBulkAll spare + 1
  | .agg parts => uptoBulkAll parts + 1
  | .iface _ d => uptoBulk d + 1
  | .map entries => uptoBulkEntries entries + 1
  | .held _ => 1
def uptoBulkAll {H : Type} : List (DataW H) → Nat
  | [] => 0
  | d :: r => uptoBulk d + uptoBulkAll r
def uptoBulkEntries {H : Type} : List (Lit × DataW H) → Nat
  | [] => 0
  | x :: r => uptoBulkEntry x + uptoBulkEntries r
def uptoBulkEntry {H : Type} : Lit × DataW H → Nat
  | (.string bytes, d) => bytes.length + uptoBulk d + 1
  | (_, d) => uptoBulk d + 1
 end
def uptoSmall : (H : Type) → List (DataW H) → Bool := fun _ ds => decide (uptoBulkAll ds ≤ 1048576)
def OpenSpec.upto (s : _root_.Go.ChangeSpec) : _root_.Go.OpenSpec := { _root_.Go.OpenSpec.ofChange s with cond := some uptoSmall }

/-- 'stemmalaw04.DiskFits', WHERE WHAT IT READS IS OF BULK AT MOST 1048576: true; the input reads as it did. -/
def diskFitsUptoRow : OpenClaim := { program := "ytcgkdomfbkkboaa", sum := "c8c3dc5f7e373b254d417463e3bb0c47fdd3277672bfe1cf99791cf634ea7c2b", func := "stemma/stemmalaw04.DiskFits", spec := "diskFits", unfollowed := true, recurses := true, apart := false, narrowed := true }
def DiskFitsUptoSaid : Prop := diskFitsUptoRow.holds Try.pinned (OpenSpec.upto diskFitsSpec)

/-- 'stemmalaw04.DiskWakes', WHERE WHAT IT READS IS OF BULK AT MOST 1048576: true; the input reads as it did. -/
def diskWakesUptoRow : OpenClaim := { program := "ytcgkdomfbkkboaa", sum := "c8c3dc5f7e373b254d417463e3bb0c47fdd3277672bfe1cf99791cf634ea7c2b", func := "stemma/stemmalaw04.DiskWakes", spec := "diskWakes", unfollowed := true, recurses := true, apart := false, narrowed := true }
def DiskWakesUptoSaid : Prop := diskWakesUptoRow.holds Try.pinned (OpenSpec.upto diskWakesSpec)

/-- 'stemmalaw04.DiskFuses', WHERE WHAT IT READS IS OF BULK AT MOST 1048576: true; the input reads as it did. -/
def diskFusesUptoRow : OpenClaim := { program := "ytcgkdomfbkkboaa", sum := "c8c3dc5f7e373b254d417463e3bb0c47fdd3277672bfe1cf99791cf634ea7c2b", func := "stemma/stemmalaw04.DiskFuses", spec := "diskFuses", unfollowed := true, recurses := true, apart := false, narrowed := true }
def DiskFusesUptoSaid : Prop := diskFusesUptoRow.holds Try.pinned (OpenSpec.upto diskFusesSpec)

/-- 'stemmalaw04.DiskRoom', WHERE WHAT IT READS IS OF BULK AT MOST 1048576: true; the input reads as it did. -/
def diskRoomUptoRow : OpenClaim := { program := "ytcgkdomfbkkboaa", sum := "c8c3dc5f7e373b254d417463e3bb0c47fdd3277672bfe1cf99791cf634ea7c2b", func := "stemma/stemmalaw04.DiskRoom", spec := "diskRoom", unfollowed := true, recurses := true, apart := false, narrowed := true }
def DiskRoomUptoSaid : Prop := diskRoomUptoRow.holds Try.pinned (OpenSpec.upto diskRoomSpec)

/-- 'stemmalaw04.DiskPlays', WHERE WHAT IT READS IS OF BULK AT MOST 1048576: true; the input reads as it did. -/
def diskPlaysUptoRow : OpenClaim := { program := "ytcgkdomfbkkboaa", sum := "c8c3dc5f7e373b254d417463e3bb0c47fdd3277672bfe1cf99791cf634ea7c2b", func := "stemma/stemmalaw04.DiskPlays", spec := "diskPlays", inPlace := ["maps.clone"], unfollowed := true, recurses := true, apart := false, narrowed := true }
def DiskPlaysUptoSaid : Prop := diskPlaysUptoRow.holds Try.pinned (OpenSpec.upto diskPlaysSpec)

/-- 'stemmalaw04.DiskKnown', WHERE WHAT IT READS IS OF BULK AT MOST 1048576: true; the input reads as it did. -/
def diskKnownUptoRow : OpenClaim := { program := "ytcgkdomfbkkboaa", sum := "c8c3dc5f7e373b254d417463e3bb0c47fdd3277672bfe1cf99791cf634ea7c2b", func := "stemma/stemmalaw04.DiskKnown", spec := "diskKnown", inPlace := ["maps.clone"], unfollowed := true, recurses := true, apart := false, narrowed := true }
def DiskKnownUptoSaid : Prop := diskKnownUptoRow.holds Try.pinned (OpenSpec.upto diskKnownSpec)

end Rows
end Go.Proofs.Ytcgkdomfbkkboaa
