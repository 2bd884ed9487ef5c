/-
  No cell of these rows narrows 'for every input' (looked for: loops, veiled, ifaces, maps, wideKeys, modest, calm, conditions, laid).
  DERIVED. THE GIVEN ROWS OF THIS SEAT. 5 by the template 'for every input the law returns true; each argument reads behind the call as it read before'; 0 by the template 'total and deterministic' (their statements: YtcleaamjfjnkkaaTotals.lean).
  GIVEN WITH THE SEED: the statements are not yours to turn. If you find one false, say at which input.
  Laid BY PROGRAM, IN A SANDBOX (cutbox-rows.mjs): the forced cells as the released guide's own fill.sh prints them over the translation 6cb8280ab3668d21… (all of the seat's roots in one cut). By AI agents, Wed Nov 11 2026. No macro, syntax, notation, axiom, sorry.
-/
import Derived.Test.YtcleaamjfjnkkaaChecked
import GoSem.Claim
import GoSem.ClaimJoined
import GoSem.ClaimMapViews
import Derived.JoinedTies
import Derived.KernelRfl
namespace Go.Proofs.Ytcleaamjfjnkkaa
/- THE CELL 'sum', in the pinned program and in every row, IS THE sha256 OF THE DUMP (.gsa) THAT YtcleaamjfjnkkaaProg.lean LOADS. Nothing in Lean hashes anything: it is a label: what it is worth is what the hold of that sum in a sandbox is worth. -/
noncomputable def Try.pinned : Pinned := { name := "ytcleaamjfjnkkaa", sum := "6cb8280ab3668d21ed2b599527e840557a411c275f7b06d4040943326574b64f", checked := Try.checked }
namespace Rows
def none {H : Type} : Left H := { results := [], args := [] }

/-- 'stemmalaw17.CoreAlone': WHATEVER THE INPUT: true; the input reads as it did. -/
def coreAloneSpec : ChangeSpec := { name := "coreAlone", fn := fun _ => fun
  | [d1, d2, d3] => { results := [.lit (.bool true)], args := [d1, d2, d3] }
  | _ => none }
def coreAloneRow : OpenClaim := { program := "ytcleaamjfjnkkaa", sum := "6cb8280ab3668d21ed2b599527e840557a411c275f7b06d4040943326574b64f", func := "stemma/stemmalaw17.CoreAlone", spec := "coreAlone", unfollowed := true, recurses := true, apart := false }
def CoreAloneSaid : Prop := coreAloneRow.holds Try.pinned (OpenSpec.ofChange coreAloneSpec)

/-- ITS FALSE NEIGHBOUR: 'it returns false'. Refute it at one input. -/
def coreAloneWrong : ChangeSpec := { name := "coreAlone", fn := fun _ => fun
  | [d1, d2, d3] => { results := [.lit (.bool false)], args := [d1, d2, d3] }
  | _ => none }
def CoreAloneWrongFalsely : Prop := coreAloneRow.holds Try.pinned (OpenSpec.ofChange coreAloneWrong)

/-- 'stemmalaw17.CoreElder': WHATEVER THE INPUT: true; the input reads as it did. -/
def coreElderSpec : ChangeSpec := { name := "coreElder", fn := fun _ => fun
  | [d1, d2] => { results := [.lit (.bool true)], args := [d1, d2] }
  | _ => none }
def coreElderRow : OpenClaim := { program := "ytcleaamjfjnkkaa", sum := "6cb8280ab3668d21ed2b599527e840557a411c275f7b06d4040943326574b64f", func := "stemma/stemmalaw17.CoreElder", spec := "coreElder", unfollowed := true, recurses := true, apart := false }
def CoreElderSaid : Prop := coreElderRow.holds Try.pinned (OpenSpec.ofChange coreElderSpec)

/-- ITS FALSE NEIGHBOUR: 'it returns false'. Refute it at one input. -/
def coreElderWrong : ChangeSpec := { name := "coreElder", fn := fun _ => fun
  | [d1, d2] => { results := [.lit (.bool false)], args := [d1, d2] }
  | _ => none }
def CoreElderWrongFalsely : Prop := coreElderRow.holds Try.pinned (OpenSpec.ofChange coreElderWrong)

/-- 'stemmalaw17.CoreForgets': WHATEVER THE INPUT: true; the input reads as it did. -/
def coreForgetsSpec : ChangeSpec := { name := "coreForgets", fn := fun _ => fun
  | [d1, d2, d3] => { results := [.lit (.bool true)], args := [d1, d2, d3] }
  | _ => none }
def coreForgetsRow : OpenClaim := { program := "ytcleaamjfjnkkaa", sum := "6cb8280ab3668d21ed2b599527e840557a411c275f7b06d4040943326574b64f", func := "stemma/stemmalaw17.CoreForgets", spec := "coreForgets", unfollowed := true, recurses := true, apart := false }
def CoreForgetsSaid : Prop := coreForgetsRow.holds Try.pinned (OpenSpec.ofChange coreForgetsSpec)

/-- ITS FALSE NEIGHBOUR: 'it returns false'. Refute it at one input. -/
def coreForgetsWrong : ChangeSpec := { name := "coreForgets", fn := fun _ => fun
  | [d1, d2, d3] => { results := [.lit (.bool false)], args := [d1, d2, d3] }
  | _ => none }
def CoreForgetsWrongFalsely : Prop := coreForgetsRow.holds Try.pinned (OpenSpec.ofChange coreForgetsWrong)

/-- 'stemmalaw17.CoreSettles': WHATEVER THE INPUT: true; the input reads as it did. -/
def coreSettlesSpec : ChangeSpec := { name := "coreSettles", fn := fun _ => fun
  | [d] => { results := [.lit (.bool true)], args := [d] }
  | _ => none }
def coreSettlesRow : OpenClaim := { program := "ytcleaamjfjnkkaa", sum := "6cb8280ab3668d21ed2b599527e840557a411c275f7b06d4040943326574b64f", func := "stemma/stemmalaw17.CoreSettles", spec := "coreSettles", unfollowed := true, recurses := true, apart := false }
def CoreSettlesSaid : Prop := coreSettlesRow.holds Try.pinned (OpenSpec.ofChange coreSettlesSpec)

/-- ITS FALSE NEIGHBOUR: 'it returns false'. Refute it at one input. -/
def coreSettlesWrong : ChangeSpec := { name := "coreSettles", fn := fun _ => fun
  | [d] => { results := [.lit (.bool false)], args := [d] }
  | _ => none }
def CoreSettlesWrongFalsely : Prop := coreSettlesRow.holds Try.pinned (OpenSpec.ofChange coreSettlesWrong)

/-- 'stemmalaw17.CoreKnown': WHATEVER THE INPUT: true; the input reads as it did. -/
def coreKnownSpec : ChangeSpec := { name := "coreKnown", fn := fun _ => fun
  | [] => { results := [.lit (.bool true)], args := [] }
  | _ => none }
def coreKnownRow : OpenClaim := { program := "ytcleaamjfjnkkaa", sum := "6cb8280ab3668d21ed2b599527e840557a411c275f7b06d4040943326574b64f", func := "stemma/stemmalaw17.CoreKnown", spec := "coreKnown", unfollowed := true, recurses := true, apart := false }
def CoreKnownSaid : Prop := coreKnownRow.holds Try.pinned (OpenSpec.ofChange coreKnownSpec)

/-- ITS FALSE NEIGHBOUR: 'it returns false'. Refute it at one input. -/
def coreKnownWrong : ChangeSpec := { name := "coreKnown", fn := fun _ => fun
  | [] => { results := [.lit (.bool false)], args := [] }
  | _ => none }
def CoreKnownWrongFalsely : Prop := coreKnownRow.holds Try.pinned (OpenSpec.ofChange coreKnownWrong)

/- THE SECOND FORM. 'bulk': how many values and letters a reading holds, each counted each time it is reached (what is shared counts as often as it is met; a slice's spare places count too). A statement '..UptoSaid' is the law's where the arguments, and the package variables that the reading takes, are together of bulk at most 1048576: NARROWER than '..Said'. Prove '..Said' where nothing that the law and all that it calls make is longer than what came in: it says more and counts as full. Else prove '..UptoSaid'. A law counts once. -/
mutual
def uptoBulk {H : Type} : DataW H → Nat
  | .lit (.string bytes) => bytes.length + 1
  | .lit _ => 1
  | .nil => 1
  | .ptr d => uptoBulk d + 1
  | .slice elems spare => uptoBulkAll elems + uptoBulkAll spare + 1
  | .agg parts => uptoBulkAll parts + 1
  | .iface _ d => uptoBulk d + 1
  | .map entries => uptoBulkEntries entries + 1
  | .held _ => 1
def uptoBulkAll {H : Type} : List (DataW H) → Nat
  | [] => 0
  | d :: r => uptoBulk d + uptoBulkAll r
def uptoBulkEntries {H : Type} : List (Lit × DataW H) → Nat
  | [] => 0
  | x :: r => uptoBulkEntry x + uptoBulkEntries r
def uptoBulkEntry {H : Type} : Lit × DataW H → Nat
  | (.string bytes, d) => bytes.length + uptoBulk d + 1
  | (_, d) => uptoBulk d + 1
 end
def uptoSmall : (H : Type) → List (DataW H) → Bool := fun _ ds => decide (uptoBulkAll ds ≤ 1048576)
def OpenSpec.upto (s : _root_.Go.ChangeSpec) : _root_.Go.OpenSpec := { _root_.Go.OpenSpec.ofChange s with cond := some uptoSmall }

/-- 'stemmalaw17.CoreAlone', WHERE WHAT IT READS IS OF BULK AT MOST 1048576: true; the input reads as it did. -/
def coreAloneUptoRow : OpenClaim := { program := "ytcleaamjfjnkkaa", sum := "6cb8280ab3668d21ed2b599527e840557a411c275f7b06d4040943326574b64f", func := "stemma/stemmalaw17.CoreAlone", spec := "coreAlone", unfollowed := true, recurses := true, apart := false, narrowed := true }
def CoreAloneUptoSaid : Prop := coreAloneUptoRow.holds Try.pinned (OpenSpec.upto coreAloneSpec)

/-- 'stemmalaw17.CoreElder', WHERE WHAT IT READS IS OF BULK AT MOST 1048576: true; the input reads as it did. -/
def coreElderUptoRow : OpenClaim := { program := "ytcleaamjfjnkkaa", sum := "6cb8280ab3668d21ed2b599527e840557a411c275f7b06d4040943326574b64f", func := "stemma/stemmalaw17.CoreElder", spec := "coreElder", unfollowed := true, recurses := true, apart := false, narrowed := true }
def CoreElderUptoSaid : Prop := coreElderUptoRow.holds Try.pinned (OpenSpec.upto coreElderSpec)

/-- 'stemmalaw17.CoreForgets', WHERE WHAT IT READS IS OF BULK AT MOST 1048576: true; the input reads as it did. -/
def coreForgetsUptoRow : OpenClaim := { program := "ytcleaamjfjnkkaa", sum := "6cb8280ab3668d21ed2b599527e840557a411c275f7b06d4040943326574b64f", func := "stemma/stemmalaw17.CoreForgets", spec := "coreForgets", unfollowed := true, recurses := true, apart := false, narrowed := true }
def CoreForgetsUptoSaid : Prop := coreForgetsUptoRow.holds Try.pinned (OpenSpec.upto coreForgetsSpec)

/-- 'stemmalaw17.CoreSettles', WHERE WHAT IT READS IS OF BULK AT MOST 1048576: true; the input reads as it did. -/
def coreSettlesUptoRow : OpenClaim := { program := "ytcleaamjfjnkkaa", sum := "6cb8280ab3668d21ed2b599527e840557a411c275f7b06d4040943326574b64f", func := "stemma/stemmalaw17.CoreSettles", spec := "coreSettles", unfollowed := true, recurses := true, apart := false, narrowed := true }
def CoreSettlesUptoSaid : Prop := coreSettlesUptoRow.holds Try.pinned (OpenSpec.upto coreSettlesSpec)

/-- 'stemmalaw17.CoreKnown', WHERE WHAT IT READS IS OF BULK AT MOST 1048576: true; the input reads as it did. -/
def coreKnownUptoRow : OpenClaim := { program := "ytcleaamjfjnkkaa", sum := "6cb8280ab3668d21ed2b599527e840557a411c275f7b06d4040943326574b64f", func := "stemma/stemmalaw17.CoreKnown", spec := "coreKnown", unfollowed := true, recurses := true, apart := false, narrowed := true }
def CoreKnownUptoSaid : Prop := coreKnownUptoRow.holds Try.pinned (OpenSpec.upto coreKnownSpec)

end Rows
end Go.Proofs.Ytcleaamjfjnkkaa
