/- A region that draws its order, whose calls make memory, and whose own operations only read: one walk, in the order of the text. -/
import Derived.Test.YtcgkdomfbkkboaaBase
namespace Go.Proofs.Ytcgkdomfbkkboaa
open Go.RowKit Go.Joins

/-- a world that holds all that w0 held, as it was. -/
structure Later (w0 : World) where
  w : World
  h : Below w0.heap.size w0 w
instance (w0 : World) : Nonempty (Later w0) := ⟨⟨w0, Below.refl _ _⟩⟩
theorem Later.cell {w0 : World} {p : Addr} {v : Value} (h : w0.cell? p = some v) (x : Later w0) : x.w.cell? p = some v := (x.h.cell (World.block_lt_of_cell? _ _ h)).trans h
theorem wp_region_later_lit {P : Program} {id : Nat} {Q : Exit → Act → World → Prop} {a : Act} {w : World} {l : List Oper} (hm : P.follows .mixedOrders = true) (hB : Region.lexB .any l.toArray = true)
    (h : wpQuiet P l.toArray (fun w' => ∃ x : Later w, w' = x.w) (fun a' => ∀ w', (∃ x : Later w, w' = x.w) → Q .normal a' w') l a) : (Code.region id l.toArray true).wp P Q a w :=
  wp_region_quiet (C := fun w' => ∃ x : Later w, w' = x.w) hm hB ⟨⟨w.drew, (Below.refl _ w).drew⟩, rfl⟩ (by simpa using h)
/-- a call's contract, met in a later world. -/
theorem Calls.later {P : Program} {f : FuncId} {args : Array Value} {w0 : World} {v : Value} {x : Later w0} (h : Calls P f args x.w fun e w' => e = .returned v ∧ Below x.w.heap.size x.w w') :
    Calls P f args x.w fun e w'' => e = .returned v ∧ ∃ y : Later w0, w'' = y.w :=
  h.mono fun _ w' ⟨he, hb⟩ => ⟨he, ⟨w', x.h.trans (hb.mono x.h.size)⟩, rfl⟩
theorem Calls.laterB {P : Program} {f : FuncId} {args : Array Value} {w0 : World} {b : Bool} {x : Later w0} (h : Calls P f args x.w (RetB b x.w)) :
    Calls P f args x.w fun e w'' => e = .returned (.bool b) ∧ ∃ y : Later w0, w'' = y.w := Calls.later h
theorem Calls.laterI {P : Program} {f : FuncId} {args : Array Value} {w0 : World} {b : Int} {x : Later w0} (h : Calls P f args x.w (RetI b x.w)) :
    Calls P f args x.w fun e w'' => e = .returned (.int .i64 b) ∧ ∃ y : Later w0, w'' = y.w := Calls.later h
end Go.Proofs.Ytcgkdomfbkkboaa
