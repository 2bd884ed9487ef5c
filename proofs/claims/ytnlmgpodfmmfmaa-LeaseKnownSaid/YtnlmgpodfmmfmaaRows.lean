/-
  No cell of these rows narrows 'for every input' (looked for: loops, veiled, ifaces, maps, wideKeys, modest, calm, conditions, laid).
  DERIVED. THE GIVEN ROWS OF THIS SEAT. 6 by the template 'for every input the law returns true; each argument reads behind the call as it read before'; 0 by the template 'total and deterministic' (their statements: YtnlmgpodfmmfmaaTotals.lean).
  GIVEN WITH THE SEED: the statements are not yours to turn. If you find one false, say at which input.
  Laid BY PROGRAM, IN A SANDBOX (cutbox-rows.mjs): the forced cells as the released guide's own fill.sh prints them over the translation fb40f086a1eb5a5b… (all of the seat's roots in one cut). By AI agents, Wed Nov 11 2026. No macro, syntax, notation, axiom, sorry.
-/
import Derived.Test.YtnlmgpodfmmfmaaChecked
import GoSem.Claim
import GoSem.ClaimJoined
import GoSem.ClaimMapViews
import Derived.JoinedTies
import Derived.KernelRfl
namespace Go.Proofs.Ytnlmgpodfmmfmaa
/- THE CELL 'sum', in the pinned program and in every row, IS THE sha256 OF THE DUMP (.gsa) THAT YtnlmgpodfmmfmaaProg.lean LOADS. Nothing in Lean hashes anything: it is a label: what it is worth is what the hold of that sum in a sandbox is worth. -/
noncomputable def Try.pinned : Pinned := { name := "ytnlmgpodfmmfmaa", sum := "fb40f086a1eb5a5b6d9aa1370ecae4b8d9dc672780dd51b0bdf6bdf9f8d5a322", checked := Try.checked }
namespace Rows
def none {H : Type} : Left H := { results := [], args := [] }

/-- 'stemmalaw15.LeaseTells': WHATEVER THE INPUT: true; the input reads as it did. -/
def leaseTellsSpec : ChangeSpec := { name := "leaseTells", fn := fun _ => fun
  | [d1, d2, d3] => { results := [.lit (.bool true)], args := [d1, d2, d3] }
  | _ => none }
def leaseTellsRow : OpenClaim := { program := "ytnlmgpodfmmfmaa", sum := "fb40f086a1eb5a5b6d9aa1370ecae4b8d9dc672780dd51b0bdf6bdf9f8d5a322", func := "stemma/stemmalaw15.LeaseTells", spec := "leaseTells", unfollowed := true, recurses := true, apart := false }
def LeaseTellsSaid : Prop := leaseTellsRow.holds Try.pinned (OpenSpec.ofChange leaseTellsSpec)

/-- ITS FALSE NEIGHBOUR: 'it returns false'. Refute it at one input. -/
def leaseTellsWrong : ChangeSpec := { name := "leaseTells", fn := fun _ => fun
  | [d1, d2, d3] => { results := [.lit (.bool false)], args := [d1, d2, d3] }
  | _ => none }
def LeaseTellsWrongFalsely : Prop := leaseTellsRow.holds Try.pinned (OpenSpec.ofChange leaseTellsWrong)

/-- 'stemmalaw15.LeaseWaits': WHATEVER THE INPUT: true; the input reads as it did. -/
def leaseWaitsSpec : ChangeSpec := { name := "leaseWaits", fn := fun _ => fun
  | [d1, d2] => { results := [.lit (.bool true)], args := [d1, d2] }
  | _ => none }
def leaseWaitsRow : OpenClaim := { program := "ytnlmgpodfmmfmaa", sum := "fb40f086a1eb5a5b6d9aa1370ecae4b8d9dc672780dd51b0bdf6bdf9f8d5a322", func := "stemma/stemmalaw15.LeaseWaits", spec := "leaseWaits", unfollowed := true, recurses := true, apart := false }
def LeaseWaitsSaid : Prop := leaseWaitsRow.holds Try.pinned (OpenSpec.ofChange leaseWaitsSpec)

/-- ITS FALSE NEIGHBOUR: 'it returns false'. Refute it at one input. -/
def leaseWaitsWrong : ChangeSpec := { name := "leaseWaits", fn := fun _ => fun
  | [d1, d2] => { results := [.lit (.bool false)], args := [d1, d2] }
  | _ => none }
def LeaseWaitsWrongFalsely : Prop := leaseWaitsRow.holds Try.pinned (OpenSpec.ofChange leaseWaitsWrong)

/-- 'stemmalaw15.LeaseSure': WHATEVER THE INPUT: true; the input reads as it did. -/
def leaseSureSpec : ChangeSpec := { name := "leaseSure", fn := fun _ => fun
  | [d] => { results := [.lit (.bool true)], args := [d] }
  | _ => none }
def leaseSureRow : OpenClaim := { program := "ytnlmgpodfmmfmaa", sum := "fb40f086a1eb5a5b6d9aa1370ecae4b8d9dc672780dd51b0bdf6bdf9f8d5a322", func := "stemma/stemmalaw15.LeaseSure", spec := "leaseSure", unfollowed := true, recurses := true, apart := false }
def LeaseSureSaid : Prop := leaseSureRow.holds Try.pinned (OpenSpec.ofChange leaseSureSpec)

/-- ITS FALSE NEIGHBOUR: 'it returns false'. Refute it at one input. -/
def leaseSureWrong : ChangeSpec := { name := "leaseSure", fn := fun _ => fun
  | [d] => { results := [.lit (.bool false)], args := [d] }
  | _ => none }
def LeaseSureWrongFalsely : Prop := leaseSureRow.holds Try.pinned (OpenSpec.ofChange leaseSureWrong)

/-- 'stemmalaw15.LeaseGrows': WHATEVER THE INPUT: true; the input reads as it did. -/
def leaseGrowsSpec : ChangeSpec := { name := "leaseGrows", fn := fun _ => fun
  | [d1, d2, d3] => { results := [.lit (.bool true)], args := [d1, d2, d3] }
  | _ => none }
def leaseGrowsRow : OpenClaim := { program := "ytnlmgpodfmmfmaa", sum := "fb40f086a1eb5a5b6d9aa1370ecae4b8d9dc672780dd51b0bdf6bdf9f8d5a322", func := "stemma/stemmalaw15.LeaseGrows", spec := "leaseGrows", unfollowed := true, recurses := true, apart := false }
def LeaseGrowsSaid : Prop := leaseGrowsRow.holds Try.pinned (OpenSpec.ofChange leaseGrowsSpec)

/-- ITS FALSE NEIGHBOUR: 'it returns false'. Refute it at one input. -/
def leaseGrowsWrong : ChangeSpec := { name := "leaseGrows", fn := fun _ => fun
  | [d1, d2, d3] => { results := [.lit (.bool false)], args := [d1, d2, d3] }
  | _ => none }
def LeaseGrowsWrongFalsely : Prop := leaseGrowsRow.holds Try.pinned (OpenSpec.ofChange leaseGrowsWrong)

/-- 'stemmalaw15.LeaseAsks': WHATEVER THE INPUT: true; the input reads as it did. -/
def leaseAsksSpec : ChangeSpec := { name := "leaseAsks", fn := fun _ => fun
  | [d1, d2] => { results := [.lit (.bool true)], args := [d1, d2] }
  | _ => none }
def leaseAsksRow : OpenClaim := { program := "ytnlmgpodfmmfmaa", sum := "fb40f086a1eb5a5b6d9aa1370ecae4b8d9dc672780dd51b0bdf6bdf9f8d5a322", func := "stemma/stemmalaw15.LeaseAsks", spec := "leaseAsks", unfollowed := true, recurses := true, apart := false }
def LeaseAsksSaid : Prop := leaseAsksRow.holds Try.pinned (OpenSpec.ofChange leaseAsksSpec)

/-- ITS FALSE NEIGHBOUR: 'it returns false'. Refute it at one input. -/
def leaseAsksWrong : ChangeSpec := { name := "leaseAsks", fn := fun _ => fun
  | [d1, d2] => { results := [.lit (.bool false)], args := [d1, d2] }
  | _ => none }
def LeaseAsksWrongFalsely : Prop := leaseAsksRow.holds Try.pinned (OpenSpec.ofChange leaseAsksWrong)

/-- 'stemmalaw15.LeaseKnown': WHATEVER THE INPUT: true; the input reads as it did. -/
def leaseKnownSpec : ChangeSpec := { name := "leaseKnown", fn := fun _ => fun
  | [] => { results := [.lit (.bool true)], args := [] }
  | _ => none }
def leaseKnownRow : OpenClaim := { program := "ytnlmgpodfmmfmaa", sum := "fb40f086a1eb5a5b6d9aa1370ecae4b8d9dc672780dd51b0bdf6bdf9f8d5a322", func := "stemma/stemmalaw15.LeaseKnown", spec := "leaseKnown", unfollowed := true, recurses := true, apart := false }
def LeaseKnownSaid : Prop := leaseKnownRow.holds Try.pinned (OpenSpec.ofChange leaseKnownSpec)

/-- ITS FALSE NEIGHBOUR: 'it returns false'. Refute it at one input. -/
def leaseKnownWrong : ChangeSpec := { name := "leaseKnown", fn := fun _ => fun
  | [] => { results := [.lit (.bool false)], args := [] }
  | _ => none }
def LeaseKnownWrongFalsely : Prop := leaseKnownRow.holds Try.pinned (OpenSpec.ofChange leaseKnownWrong)

/- THE SECOND FORM. 'bulk': how many values and letters a reading holds, each counted each time it is reached (what is shared counts as often as it is met; a slice's spare places count too). A statement '..UptoSaid' is the law's where the arguments, and the package variables that the reading takes, are together of bulk at most 1048576: NARROWER than '..Said'. Prove '..Said' where nothing that the law and all that it calls make is longer than what came in: it says more and counts as full. Else prove '..UptoSaid'. A law counts once. -/
mutual
def uptoBulk {H : Type} : DataW H → Nat
  | .lit (.string bytes) => bytes.length + 1
  | .lit _ => 1
  | .nil => 1
  | .ptr d => uptoBulk d + 1
  | .slice elems spare => uptoBulkAll elems + uptoBulkAll spare + 1
  | .agg parts => uptoBulkAll parts + 1
  | .iface _ d => uptoBulk d + 1
  | .map entries => uptoBulkEntries entries + 1
  | .held _ => 1
def uptoBulkAll {H : Type} : List (DataW H) → Nat
  | [] => 0
  | d :: r => uptoBulk d + uptoBulkAll r
def uptoBulkEntries {H : Type} : List (Lit × DataW H) → Nat
  | [] => 0
  | x :: r => uptoBulkEntry x + uptoBulkEntries r
def uptoBulkEntry {H : Type} : Lit × DataW H → Nat
  | (.string bytes, d) => bytes.length + uptoBulk d + 1
  | (_, d) => uptoBulk d + 1
 end
def uptoSmall : (H : Type) → List (DataW H) → Bool := fun _ ds => decide (uptoBulkAll ds ≤ 1048576)
def OpenSpec.upto (s : _root_.Go.ChangeSpec) : _root_.Go.OpenSpec := { _root_.Go.OpenSpec.ofChange s with cond := some uptoSmall }

/-- 'stemmalaw15.LeaseTells', WHERE WHAT IT READS IS OF BULK AT MOST 1048576: true; the input reads as it did. -/
def leaseTellsUptoRow : OpenClaim := { program := "ytnlmgpodfmmfmaa", sum := "fb40f086a1eb5a5b6d9aa1370ecae4b8d9dc672780dd51b0bdf6bdf9f8d5a322", func := "stemma/stemmalaw15.LeaseTells", spec := "leaseTells", unfollowed := true, recurses := true, apart := false, narrowed := true }
def LeaseTellsUptoSaid : Prop := leaseTellsUptoRow.holds Try.pinned (OpenSpec.upto leaseTellsSpec)

/-- 'stemmalaw15.LeaseWaits', WHERE WHAT IT READS IS OF BULK AT MOST 1048576: true; the input reads as it did. -/
def leaseWaitsUptoRow : OpenClaim := { program := "ytnlmgpodfmmfmaa", sum := "fb40f086a1eb5a5b6d9aa1370ecae4b8d9dc672780dd51b0bdf6bdf9f8d5a322", func := "stemma/stemmalaw15.LeaseWaits", spec := "leaseWaits", unfollowed := true, recurses := true, apart := false, narrowed := true }
def LeaseWaitsUptoSaid : Prop := leaseWaitsUptoRow.holds Try.pinned (OpenSpec.upto leaseWaitsSpec)

/-- 'stemmalaw15.LeaseSure', WHERE WHAT IT READS IS OF BULK AT MOST 1048576: true; the input reads as it did. -/
def leaseSureUptoRow : OpenClaim := { program := "ytnlmgpodfmmfmaa", sum := "fb40f086a1eb5a5b6d9aa1370ecae4b8d9dc672780dd51b0bdf6bdf9f8d5a322", func := "stemma/stemmalaw15.LeaseSure", spec := "leaseSure", unfollowed := true, recurses := true, apart := false, narrowed := true }
def LeaseSureUptoSaid : Prop := leaseSureUptoRow.holds Try.pinned (OpenSpec.upto leaseSureSpec)

/-- 'stemmalaw15.LeaseGrows', WHERE WHAT IT READS IS OF BULK AT MOST 1048576: true; the input reads as it did. -/
def leaseGrowsUptoRow : OpenClaim := { program := "ytnlmgpodfmmfmaa", sum := "fb40f086a1eb5a5b6d9aa1370ecae4b8d9dc672780dd51b0bdf6bdf9f8d5a322", func := "stemma/stemmalaw15.LeaseGrows", spec := "leaseGrows", unfollowed := true, recurses := true, apart := false, narrowed := true }
def LeaseGrowsUptoSaid : Prop := leaseGrowsUptoRow.holds Try.pinned (OpenSpec.upto leaseGrowsSpec)

/-- 'stemmalaw15.LeaseAsks', WHERE WHAT IT READS IS OF BULK AT MOST 1048576: true; the input reads as it did. -/
def leaseAsksUptoRow : OpenClaim := { program := "ytnlmgpodfmmfmaa", sum := "fb40f086a1eb5a5b6d9aa1370ecae4b8d9dc672780dd51b0bdf6bdf9f8d5a322", func := "stemma/stemmalaw15.LeaseAsks", spec := "leaseAsks", unfollowed := true, recurses := true, apart := false, narrowed := true }
def LeaseAsksUptoSaid : Prop := leaseAsksUptoRow.holds Try.pinned (OpenSpec.upto leaseAsksSpec)

/-- 'stemmalaw15.LeaseKnown', WHERE WHAT IT READS IS OF BULK AT MOST 1048576: true; the input reads as it did. -/
def leaseKnownUptoRow : OpenClaim := { program := "ytnlmgpodfmmfmaa", sum := "fb40f086a1eb5a5b6d9aa1370ecae4b8d9dc672780dd51b0bdf6bdf9f8d5a322", func := "stemma/stemmalaw15.LeaseKnown", spec := "leaseKnown", unfollowed := true, recurses := true, apart := false, narrowed := true }
def LeaseKnownUptoSaid : Prop := leaseKnownUptoRow.holds Try.pinned (OpenSpec.upto leaseKnownSpec)

end Rows
end Go.Proofs.Ytnlmgpodfmmfmaa
