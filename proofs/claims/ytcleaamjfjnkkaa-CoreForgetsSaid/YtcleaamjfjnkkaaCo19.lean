/- What a voter tells. -/
import Derived.Test.YtcleaamjfjnkkaaCo9
namespace Go.Proofs.Ytcleaamjfjnkkaa
open Go.RowKit Go.Joins

section
variable {w : World} {base p : Nat} {lv ov tv : Value} {os : List RM} {c : Co}
set_option maxRecDepth 100000 in
theorem role_any (h : CL w base p lv ov tv c) : Calls Try.prog 13 #[.pointer (some ⟨p, 0, none⟩)] w (SameI c.role w) := by
  obtain ⟨⟨-, -, -, -, -, g5, -⟩, -⟩ := h.cells
  clear h
  go_enter Try.func13, Try.ntmps13
  go_wp2
  go_ret
  exact sameI rfl
set_option maxRecDepth 100000 in
theorem commit_any (h : CL w base p lv ov tv c) : Calls Try.prog 14 #[.pointer (some ⟨p, 0, none⟩)] w (SameI c.commit w) := by
  obtain ⟨⟨-, -, -, -, g4, -⟩, -⟩ := h.cells
  clear h
  go_enter Try.func14, Try.ntmps14
  go_wp2
  go_ret
  exact sameI rfl
set_option maxRecDepth 100000 in
theorem head_any (h : CL w base p lv ov tv c) : Calls Try.prog 26 #[.pointer (some ⟨p, 0, none⟩)] w (SameI c.head w) := by
  obtain ⟨⟨-, -, -, -, -, -, g6, -⟩, -⟩ := h.cells
  clear h
  go_enter Try.func26, Try.ntmps26
  go_wp2
  go_ret
  exact sameI rfl
/-- what may not be forgotten, as a copy. -/
def HardP (t v : Int) (es : List Ent) (w : World) (e : Ending) (w' : World) : Prop := ∃ a cap, e = .returned (.agg #[.int .u64 t, .int .i64 v, .slice a es.length cap]) ∧ OwnE w' w.heap.size (.slice a es.length cap) es ∧ Below w.heap.size w w'
set_option maxRecDepth 100000 in
theorem resH (tmps : Array Value) (w : World) (R : Nat) (x y z : Value) (h2 : tmps.getD 2 undef = .pointer (some ⟨R, 0, none⟩)) (hR : w.heap[R]? = some (.cells #[x, y, z] 26 (0, 0))) :
    (results Try.f29 tmps).run Try.prog w = .ok (.agg #[x, y, z]) w :=
  results_cell_row (P := Try.prog) (p := 2) (ty := 26) rfl tmps w R 26 _ (0, 0) _ h2 hR Try.underlying26 rfl (by kernel_rfl)
set_option linter.unusedVariables false in
set_option maxHeartbeats 1000000 in
set_option maxRecDepth 100000 in
theorem own_any (t v : Int) (a : Option Addr) (n cap : Nat) (es : List Ent) (hn : es.length = n) (h : Sl w a cap es) (hb : n * 32 ≤ 140737488355328) :
    Calls Try.prog 29 #[.agg #[.int .u64 t, .int .i64 v, .slice a n cap]] w (HardP t v es w) := by
  have HC := Lib.hid (fun W (h : Sl W a cap es) => clone_len a cap n es hn W h hb)
  have H := Lib.hid h
  have HX := Lib.hid (show Below w.heap.size w ((w.alloc (.cells #[.int .u64 t, .int .i64 v, .slice a n cap] 26)).alloc (.cells #[.int .u64 0, .int .i64 0, .slice none 0 0] 26)) from (bel1 w _).trans ((bel1 _ _).mono (by simp)))
  have HA := Lib.hid (blk_below (heap_alloc_new w (.cells #[.int .u64 t, .int .i64 v, .slice a n cap] 26)) (bel1 _ (.cells #[.int .u64 0, .int .i64 0, .slice none 0 0] 26)))
  have HB := Lib.hid (heap_alloc2_new w (.cells #[.int .u64 t, .int .i64 v, .slice a n cap] 26) (.cells #[.int .u64 0, .int .i64 0, .slice none 0 0] 26))
  have HZ := Lib.hid (show ((w.alloc (.cells #[.int .u64 t, .int .i64 v, .slice a n cap] 26)).alloc (.cells #[.int .u64 0, .int .i64 0, .slice none 0 0] 26)).heap.size = w.heap.size + 2 by simp)
  have HN := Lib.hid hn
  clear h hb hn
  go_enter Try.func29, Try.ntmps29
  go_wp2_with (go_at_call 55; refine (HC.out _ (H.out.below HX.out)).mono ?_; intro e w1 hpo; obtain ⟨v2, rfl, ho, hb2⟩ := hpo; obtain ⟨a2, c2, hv2, -, hk2⟩ := own_sl ho; rw [HN.out] at hv2; subst hv2; have HO := Lib.hid ho; have HB2 := Lib.hid hb2; have HK := Lib.hid hk2; have hA := blk_below HA.out hb2; have hB := blk_below HB.out hb2; have HA1 := Lib.hid hA; have HB1 := Lib.hid hB; obtain ⟨⟨p0, q0⟩, ⟨p1, q1⟩, ⟨p2, q2⟩⟩ := (And.intro (cell_of hA 0 (v := .int .u64 t) rfl) (And.intro (cell_of hA 1 (v := .int .i64 v) rfl) (cell_of hA 2 (v := .slice a n cap) rfl))); obtain ⟨⟨r0, s0⟩, ⟨r1, s1⟩, ⟨r2, s2⟩⟩ := (And.intro (cell_of hB 0 (v := .int .u64 0) rfl) (And.intro (cell_of hB 1 (v := .int .i64 0) rfl) (cell_of hB 2 (v := .slice none 0 0) rfl))); clear ho hb2 hk2 hA hB)
  have hm : Mod (fun k => k = w.heap.size ∨ k = w.heap.size + 1) w1 ((((w1.setCell ⟨w.heap.size, 2, none⟩ (.slice a2 n c2)).setCell ⟨w.heap.size + 1, 0, none⟩ (.int .u64 t)).setCell ⟨w.heap.size + 1, 1, none⟩ (.int .i64 v)).setCell ⟨w.heap.size + 1, 2, none⟩ (.slice a2 n c2)) :=
    ((((Mod.cellOf w.heap.size 2 _).mono (fun _ _ e => Or.inl e)).trans ((Mod.cellOf (w.heap.size + 1) 0 _).mono (fun _ _ e => Or.inr e))).trans ((Mod.cellOf (w.heap.size + 1) 1 _).mono (fun _ _ e => Or.inr e))).trans ((Mod.cellOf (w.heap.size + 1) 2 _).mono (fun _ _ e => Or.inr e))
  have hR : ((((w1.setCell ⟨w.heap.size, 2, none⟩ (.slice a2 n c2)).setCell ⟨w.heap.size + 1, 0, none⟩ (.int .u64 t)).setCell ⟨w.heap.size + 1, 1, none⟩ (.int .i64 v)).setCell ⟨w.heap.size + 1, 2, none⟩ (.slice a2 n c2)).heap[w.heap.size + 1]? = some (.cells #[.int .u64 t, .int .i64 v, .slice a2 n c2] 26 (0, 0)) := by
    rw [setCell_blk (setCell_blk (setCell_blk ((Mod.cellOf w.heap.size 2 (.slice a2 n c2)).heap HB1.out (by omega))))]; rfl
  refine bodyPost_ret (resH _ _ _ _ _ _ rfl hR) rfl ?_
  refine ⟨a2, c2, by rw [HN.out], ?_, ?_⟩
  · rw [HN.out]
    have h1 := hm.own HO.out (fun g hg e => by have := (World.ownsRow.lt HO.out g hg).1; have := HZ.out; omega)
    exact OwnE.mono h1 (by have := HZ.out; omega)
  · exact (HX.out.trans (HB2.out.mono (by have := HZ.out; omega))).trans (hm.below (by have := HB2.out.size; have := HZ.out; omega) (fun k e => by omega))
set_option maxRecDepth 100000 in
theorem resH2 (tmps : Array Value) (w : World) (R : Nat) (x y z : Value) (h2 : tmps.getD 2 undef = .pointer (some ⟨R, 0, none⟩)) (hR : w.heap[R]? = some (.cells #[x, y, z] 26 (0, 0))) :
    (results Try.f12 tmps).run Try.prog w = .ok (.agg #[x, y, z]) w :=
  results_cell_row (P := Try.prog) (p := 2) (ty := 26) rfl tmps w R 26 _ (0, 0) _ h2 hR Try.underlying26 rfl (by kernel_rfl)
set_option maxHeartbeats 1000000 in
set_option maxRecDepth 100000 in
theorem hard_any (h : CL w base p lv ov tv c) (hlen : c.log.length ≤ 300) : Calls Try.prog 12 #[.pointer (some ⟨p, 0, none⟩)] w (HardP c.term c.voted c.log w) := by
  have g1 := fun o => (h.below (bel1 w o)).cells.1.2.1
  have g2 := fun o => (h.below (bel1 w o)).cells.1.2.2.1
  have g3 := fun o => (h.below (bel1 w o)).cells.1.2.2.2.1
  obtain ⟨la, lc, hv, hsl, -⟩ := own_sl h.log
  subst hv
  have HO := Lib.hid (fun (W : World) (hs : Sl W la lc c.log) => own_any (w := W) c.term c.voted la c.log.length lc c.log rfl hs (by omega))
  have HS := Lib.hid (hsl.below (bel1 w (.cells #[.int .u64 0, .int .i64 0, .slice none 0 0] 26)))
  have HX := Lib.hid (bel1 w (.cells #[.int .u64 0, .int .i64 0, .slice none 0 0] 26))
  have HA := Lib.hid (heap_alloc_new w (.cells #[.int .u64 0, .int .i64 0, .slice none 0 0] 26))
  have HZ := Lib.hid (show (w.alloc (.cells #[.int .u64 0, .int .i64 0, .slice none 0 0] 26)).heap.size = w.heap.size + 1 by simp)
  clear h hsl
  go_enter Try.func12, Try.ntmps12
  go_wp2_with (go_at_call 29; refine (HO.out _ HS.out).mono ?_; rintro e w1 ⟨a2, c2, rfl, ho, hb⟩; have HOO := Lib.hid ho; have HB := Lib.hid hb; have hA := blk_below HA.out hb; have HA1 := Lib.hid hA; obtain ⟨⟨p0, q0⟩, ⟨p1, q1⟩, ⟨p2, q2⟩⟩ := (And.intro (cell_of hA 0 (v := .int .u64 0) rfl) (And.intro (cell_of hA 1 (v := .int .i64 0) rfl) (cell_of hA 2 (v := .slice none 0 0) rfl))); clear ho hb hA)
  have hm : Mod (fun k => k = w.heap.size) w1 (((w1.setCell ⟨w.heap.size, 0, none⟩ (.int .u64 c.term)).setCell ⟨w.heap.size, 1, none⟩ (.int .i64 c.voted)).setCell ⟨w.heap.size, 2, none⟩ (.slice a2 c.log.length c2)) :=
    ((Mod.cellOf w.heap.size 0 _).trans (Mod.cellOf w.heap.size 1 _)).trans (Mod.cellOf w.heap.size 2 _)
  have hR : (((w1.setCell ⟨w.heap.size, 0, none⟩ (.int .u64 c.term)).setCell ⟨w.heap.size, 1, none⟩ (.int .i64 c.voted)).setCell ⟨w.heap.size, 2, none⟩ (.slice a2 c.log.length c2)).heap[w.heap.size]? = some (.cells #[.int .u64 c.term, .int .i64 c.voted, .slice a2 c.log.length c2] 26 (0, 0)) := by
    rw [setCell_blk (setCell_blk (setCell_blk HA1.out))]; rfl
  refine bodyPost_ret (resH2 _ _ _ _ _ _ rfl hR) rfl ?_
  refine ⟨a2, c2, rfl, ?_, ?_⟩
  · have h1 := hm.own HOO.out (fun g hg e => by have := (World.ownsRow.lt HOO.out g hg).1; have := HZ.out; omega)
    exact OwnE.mono h1 (by have := HZ.out; omega)
  · exact (HX.out.trans (HB.out.mono (by have := HZ.out; omega))).trans (hm.below (by have := HB.out.size; have := HZ.out; omega) (fun k e => by omega))
end
end Go.Proofs.Ytcleaamjfjnkkaa
