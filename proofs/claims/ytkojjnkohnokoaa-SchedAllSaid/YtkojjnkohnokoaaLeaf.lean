/- Small functions of a scheduler: making one, taking from a queue, putting onto it. -/
import Derived.Test.YtkojjnkohnokoaaObj
import Derived.Laws.LoneSync
import Derived.Laws.StructEq
import Derived.Laws.ResultCell
import Derived.Laws.MakeOwn
import Derived.Laws.BytesArg
import Derived.Maps.AppendAt
namespace Go.Proofs.Ytkojjnkohnokoaa
open Go.RowKit Go.Joins

theorem bel1 (w : World) (o : Obj) : Below w.heap.size w (w.alloc o) := (Below.refl _ w).alloc (Nat.le_refl _) o
/-- a new one, whose cells were just laid. -/
theorem sch_new (w : World) (base : Nat) (t : TypeId) (hb : base ≤ w.heap.size) : Sch (w.alloc (.cells #[.slice none 0 0, .int .i64 0, .slice none 0 0, .int .i64 0, .slice none 0 0, .int .i64 0, .slice none 0 0, .int .i64 0, .slice none 0 0, .int .i64 0, .slice none 0 0, .int .i64 0] t)) base w.heap.size t (fun _ => .slice none 0 0) new0 :=
  ⟨World.alloc_heap_new w _, hb, fun i _ => que_nil _ _, fun i _ => by simp [Value.ownBlock], fun i j _ _ _ g hg => by simp [Value.ownBlock] at hg⟩
def NewP (t : TypeId) (w : World) (e : Ending) (w' : World) : Prop := e = .returned (.pointer (some ⟨w.heap.size, 0, none⟩)) ∧ Sch w' w.heap.size w.heap.size t (fun _ => .slice none 0 0) new0 ∧ Below w.heap.size w w'
set_option maxRecDepth 100000 in
theorem new_any (w : World) : Calls Try.prog 7 #[] w (NewP 56 w) := by
  go_enter Try.func7, Try.ntmps7
  go_wp2
  go_ret
  exact ⟨rfl, sch_new w _ 56 (Nat.le_refl _), bel1 _ _⟩

/-- queue.take: the head, and the rest. -/
def TakeP (g o : Nat) (x : BA) (v : Value) (w : World) (e : Ending) (w' : World) : Prop := e = .returned (.string x) ∧ w' = w.setCell ⟨g, o, none⟩ v
set_option maxRecDepth 100000 in
theorem take_any (p o b off n cap : Nat) (x : BA) (w : World) (hc : w.cell? ⟨p, o, none⟩ = some (.slice (some ⟨b, off, none⟩) (n + 1) (cap + 1))) (hf : w.frozen? ⟨p, o, none⟩ = false) (hx : w.cell? ⟨b, off, none⟩ = some (.string x)) :
    Calls Try.prog 22 #[.pointer (some ⟨p, o, none⟩)] w (TakeP p o x (.slice (if cap = 0 then some ⟨b, off, none⟩ else some ⟨b, off + 1, none⟩) n cap) w) := by
  have h1 : (1 : Int) ≤ ((n + 1 : Nat) : Int) := by omega
  go_enter Try.func22, Try.ntmps22
  go_wp2
  all_goals (go_ret; exact ⟨rfl, rfl⟩)

/-- queue.put: one text more, behind. -/
def PutP (g o base : Nat) (v : Value) (xs : List BA) (w : World) (e : Ending) (w' : World) : Prop :=
  e = .returned (.tuple #[]) ∧ ∃ v' w1, w' = w1.setCell ⟨g, o, none⟩ v' ∧ Que w1 base v' xs ∧ Mod (fun k => v.ownBlock = some k) w w1 ∧ ∀ g, v'.ownBlock = some g → v.ownBlock = some g ∨ w.heap.size ≤ g
theorem qput_any (p o base : Nat) (v : Value) (xs : List BA) (x : BA) (w : World) (hc : w.cell? ⟨p, o, none⟩ = some v) (hf : w.frozen? ⟨p, o, none⟩ = false) (hq : Que w base v xs) (hb : base ≤ w.heap.size) (hl : xs.length ≤ 1000000) (hnp : v.ownBlock ≠ some p) :
    Calls Try.prog 20 #[.pointer (some ⟨p, o, none⟩), .string x] w (PutP p o base v (xs ++ [x]) w) := by
  obtain ⟨a, cap, rfl, -⟩ := hq.form
  have hx := (cell_one_new w (.string x) 9) 0 (.string x) rfl
  rw [Go.WideShapes.add_plain, Nat.zero_add] at hx
  have hlt := World.block_lt_of_cell? _ _ hc
  have hc0 : (w.alloc (.cells #[.string x] 9)).cell? ⟨p, o, none⟩ = some (.slice a xs.length cap) := ((bel1 w _).cell (p := ⟨p, o, none⟩) hlt).trans hc
  have hf0 : (w.alloc (.cells #[.string x] 9)).frozen? ⟨p, o, none⟩ = false := ((bel1 w _).frozen (p := ⟨p, o, none⟩) hlt).trans hf
  go_enter Try.func20, Try.ntmps20
  go_wp2_with (at_builtin; refine wpList_que (v := .slice a xs.length cap) (base := base) rfl _ _ rfl rfl (hq.below (bel1 w (.cells #[.string x] 9))) (by simp; omega) hl ⟨w.heap.size, 0, none⟩ 1 x rfl hx ?_; intro v' w1 hq1 hg1 hv1; obtain ⟨a', cap', rfl, -⟩ := hq1.form; have hc1 := hg1.cell (a := ⟨p, o, none⟩) hc0 hnp.symm; have hf1 : w1.frozen? ⟨p, o, none⟩ = false := (World.frozen?_of_block (a := ⟨p, o, none⟩) (hg1.block p (by have := hlt; simp at this ⊢; omega) hnp.symm)).trans hf0)
  go_end0
  rw [List.length_append, List.length_singleton] at hq1 hv1
  refine ⟨rfl, _, w1, rfl, hq1, ?_, fun g hg => (hv1 g hg).imp id (fun h => by simp at h; omega)⟩
  exact (Mod.of_below (bel1 w (.cells #[.string x] 9)) (Nat.le_refl _) _).trans (Mod.grown hg1 (fun k hk => hk))
end Go.Proofs.Ytkojjnkohnokoaa
