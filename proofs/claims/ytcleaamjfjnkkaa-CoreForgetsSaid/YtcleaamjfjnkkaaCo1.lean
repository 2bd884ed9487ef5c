/- The small methods of a voter. -/
import Derived.Test.YtcleaamjfjnkkaaCoObj
import Derived.BigRegion
namespace Go.Proofs.Ytcleaamjfjnkkaa
open Go.RowKit Go.Joins

def Tup0 (R : World → Prop) (e : Ending) (w' : World) : Prop := e = .returned (.tuple #[]) ∧ R w'
def TupV (v : Value) (R : World → Prop) (e : Ending) (w' : World) : Prop := e = .returned v ∧ R w'
section
variable {w w' : World} {base p : Nat} {lv ov tv : Value} {os : List RM} {c c' : Co}
/-- all cells. -/
theorem CL.cells (h : CL w base p lv ov tv c) :
    (w.cell? ⟨p, 0, none⟩ = some (.int .i64 c.me) ∧ w.cell? ⟨p, 1, none⟩ = some (.int .u64 c.term) ∧ w.cell? ⟨p, 2, none⟩ = some (.int .i64 c.voted) ∧ w.cell? ⟨p, 3, none⟩ = some lv ∧ w.cell? ⟨p, 4, none⟩ = some (.int .i64 c.commit) ∧ w.cell? ⟨p, 5, none⟩ = some (.int .i64 c.role) ∧ w.cell? ⟨p, 6, none⟩ = some (.int .i64 c.head) ∧ w.cell? ⟨p, 7, none⟩ = some (.int .i64 c.heard) ∧ w.cell? ⟨p, 8, none⟩ = some (.int .i64 c.since) ∧ w.cell? ⟨p, 9, none⟩ = some (.int .i64 c.timeout) ∧ w.cell? ⟨p, 10, none⟩ = some (.int .i64 c.now) ∧ w.cell? ⟨p, 29, none⟩ = some ov ∧ w.cell? ⟨p, 30, none⟩ = some tv) ∧
    (∀ i, w.frozen? ⟨p, i, none⟩ = false) := by
  refine ⟨⟨(cell_of h.blk 0 rfl).1, (cell_of h.blk 1 rfl).1, (cell_of h.blk 2 rfl).1, (cell_of h.blk 3 rfl).1, (cell_of h.blk 4 rfl).1, (cell_of h.blk 5 rfl).1, (cell_of h.blk 6 rfl).1, (cell_of h.blk 7 rfl).1, (cell_of h.blk 8 rfl).1, (cell_of h.blk 9 rfl).1, (cell_of h.blk 10 rfl).1, (cell_of h.blk 29 rfl).1, (cell_of h.blk 30 rfl).1⟩, fun i => ?_⟩
  simp [World.frozen?, h.blk]
set_option maxRecDepth 100000 in
theorem begin_any (clock : Int) (h : CL w base p lv ov tv c) : Calls Try.prog 35 #[.pointer (some ⟨p, 0, none⟩), .int .i64 clock] w (Tup0 fun w' => CAt w' base p lv (.slice none 0 0) (.slice none 0 0) [] (c.begin clock) ∧ Mod (fun k => k = p) w w') := by
  obtain ⟨⟨-, -, -, -, -, -, -, -, -, -, g10, g29, g30⟩, gf⟩ := h.cells
  have f1 := gf 10
  have f2 := gf 29
  have f3 := gf 30
  have H := Lib.hid h
  clear gf h
  go_enter Try.func35, Try.ntmps35
  go_wp2
  go_end0
  refine ⟨rfl, ?_⟩
  have hm : Mod (fun k => k = p) w (((w.setCell ⟨p, 10, none⟩ (.int .i64 clock)).setCell ⟨p, 29, none⟩ (.slice none 0 0)).setCell ⟨p, 30, none⟩ (.slice none 0 0)) := ((Mod.cellOf p 10 _).trans (Mod.cellOf p 29 _)).trans (Mod.cellOf p 30 _)
  refine ⟨{ blk := ?_, bp := H.out.bp, log := hm.own H.out.log (fun g hg e => H.out.not (e ▸ hg)), ghl := Nat.le_trans H.out.ghl hm.size, out := ownL_nil _ _, dst := ownL_nil _ _, eq := rfl, ents := fun x hx => by cases hx }, hm⟩
  rw [setCell_blk (setCell_blk (setCell_blk H.out.blk))]; rfl
set_option maxRecDepth 100000 in
theorem follow_any (t : Int) (h : CAt w base p lv ov tv os c) : Calls Try.prog 61 #[.pointer (some ⟨p, 0, none⟩), .int .u64 t] w (Tup0 fun w' => CAt w' base p lv ov tv os (c.follow t) ∧ Mod (fun k => k = p) w w') := by
  obtain ⟨⟨-, g1, g2, -, -, g5, g6, -⟩, gf⟩ := h.toCL.cells
  have f1 := gf 1
  have f2 := gf 2
  have f3 := gf 5
  have f4 := gf 6
  have H := Lib.hid h
  clear gf h
  by_cases hlt : c.term < t
  · have hf : Hid (c.follow t = { c with term := t, voted := -1, role := 0, head := -1 }) := by show _ = _; unfold Co.follow; rw [if_pos hlt]
    generalize c.term = ct at *
    go_enter Try.func61, Try.ntmps61
    go_wp2
    go_end0
    refine ⟨rfl, ?_⟩
    have hm : Mod (fun k => k = p) w ((((w.setCell ⟨p, 1, none⟩ (.int .u64 t)).setCell ⟨p, 2, none⟩ (.int .i64 (-1))).setCell ⟨p, 5, none⟩ (.int .i64 0)).setCell ⟨p, 6, none⟩ (.int .i64 (-1))) := (((Mod.cellOf p 1 _).trans (Mod.cellOf p 2 _)).trans (Mod.cellOf p 5 _)).trans (Mod.cellOf p 6 _)
    refine ⟨H.out.put ?_ hm (by rw [hf.out]) (by rw [hf.out]) (by rw [hf.out]), hm⟩
    rw [setCell_blk (setCell_blk (setCell_blk (setCell_blk H.out.blk))), hf.out]; rfl
  · have hf : Hid (c.follow t = c) := by show _ = _; unfold Co.follow; rw [if_neg hlt]
    generalize c.term = ct at *
    go_enter Try.func61, Try.ntmps61
    go_wp2
    go_end0
    refine ⟨rfl, ?_⟩
    rw [hf.out]
    exact ⟨H.out, Mod.refl _ _⟩
end
end Go.Proofs.Ytcleaamjfjnkkaa
