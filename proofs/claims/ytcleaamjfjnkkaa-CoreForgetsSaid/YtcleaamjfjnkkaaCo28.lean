/- What the committed entries say; voters that are none. -/
import Derived.Test.YtcleaamjfjnkkaaCo27
namespace Go.Proofs.Ytcleaamjfjnkkaa
open Go.RowKit Go.Joins

set_option maxRecDepth 100000 in
theorem resL (tmps : Array Value) (w : World) (R : Nat) (x y z u : Value) (h2 : tmps.getD 2 undef = .pointer (some ⟨R, 0, none⟩)) (hR : w.heap[R]? = some (.cells #[x, y, z, u] 41 (0, 0))) :
    (results Try.f27 tmps).run Try.prog w = .ok (.agg #[x, y, z, u]) w :=
  results_cell_row (P := Try.prog) (p := 2) (ty := 41) rfl tmps w R 41 _ (0, 0) _ h2 hR Try.underlying41 rfl (by kernel_rfl)
set_option linter.unusedSimpArgs false in
set_option linter.unusedVariables false in
set_option maxHeartbeats 8000000 in
set_option maxRecDepth 100000 in
theorem line_any {w : World} {base p : Nat} {lv ov tv : Value} {os : List RM} {c : Co} (h : CL w base p lv ov tv c) (hlen : c.log.length ≤ 300) : Calls Try.prog 27 #[.pointer (some ⟨p, 0, none⟩)] w (LinePost (foldL (c.log.take (cut c.commit c.log.length))) w) := by
  have mixed : Try.prog.follows .mixedOrders = true := by kernel_rfl
  obtain ⟨la, lc, hv, hsl, -⟩ := own_sl h.log
  subst hv
  have HW := Lib.hid (bel1 w (.cells #[.int .u64 0, .int .i64 0, .bool false, .slice none 0 0] 41))
  have HBL := Lib.hid (heap_alloc_new w (.cells #[.int .u64 0, .int .i64 0, .bool false, .slice none 0 0] 41))
  have C1 := Lib.hid (h.below HW.out)
  have HF := Lib.hid (fun W (hb : Below (w.alloc (.cells #[.int .u64 0, .int .i64 0, .bool false, .slice none 0 0] 41)).heap.size (w.alloc (.cells #[.int .u64 0, .int .i64 0, .bool false, .slice none 0 0] 41)) W) => fold_any la lc c.log c.commit W ((hsl.below HW.out).below hb) (by omega))
  have HC := Lib.hid (show Cel2 ⟨p, 3, none⟩ (.slice la c.log.length lc) ⟨p, 4, none⟩ (.int .i64 c.commit) (w.alloc (.cells #[.int .u64 0, .int .i64 0, .bool false, .slice none 0 0] 41)) from ⟨C1.out.cells.1.2.2.2.1, C1.out.cells.1.2.2.2.2.1⟩)
  have HNE := Lib.hid (show w.heap.size < (w.alloc (.cells #[.int .u64 0, .int .i64 0, .bool false, .slice none 0 0] 41)).heap.size by simp)
  have HSZ := Lib.hid (show w.heap.size ≤ (w.alloc (.cells #[.int .u64 0, .int .i64 0, .bool false, .slice none 0 0] 41)).heap.size by simp)
  clear h hsl hlen
  generalize foldL (c.log.take (cut c.commit c.log.length)) = S at *
  go_enter Try.func27, Try.ntmps27
  go_upto_region 3 with fail
  generalize w.alloc (.cells #[.int .u64 0, .int .i64 0, .bool false, .slice none 0 0] 41) = Y at *
  refine wp_region_noPanic ?_
  refine wp_region_lim (Cel2 ⟨p, 3, none⟩ (.slice la c.log.length lc) ⟨p, 4, none⟩ (.int .i64 c.commit)) (fun i => decide (i < 10)) (fun i => false) (by kernel_rfl) (by kernel_rfl) ⟨keepc' HC.out.1 (Below.refl _ _).drew, keepc' HC.out.2 (Below.refl _ _).drew⟩ (fun HT hS0 => ?_)
  refine tkD HT 0 6 (v := ?_) ?_ ?_
  rotate_left
  · (intro w5 hSw; obtain ⟨q1, q2⟩ := hSw; go_simp; (try with_reducible rfl))
  try simp only [s1, s2, s3]
  refine tkD HT 1 7 (v := ?_) ?_ ?_
  rotate_left
  · (intro w5 hSw; obtain ⟨q1, q2⟩ := hSw; go_simp; (try with_reducible rfl))
  try simp only [s1, s2, s3]
  refine tkD HT 2 8 (v := ?_) ?_ ?_
  rotate_left
  · (intro w5 hSw; obtain ⟨q1, q2⟩ := hSw; go_simp; (try with_reducible rfl))
  try simp only [s1, s2, s3]
  refine tkD HT 3 9 (v := ?_) ?_ ?_
  rotate_left
  · (intro w5 hSw; obtain ⟨q1, q2⟩ := hSw; go_simp; (try with_reducible rfl))
  try simp only [s1, s2, s3]
  refine tkD HT 4 10 (v := ?_) ?_ ?_
  rotate_left
  · (intro w5 hSw; obtain ⟨q1, q2⟩ := hSw; go_simp; (try with_reducible rfl))
  try simp only [s1, s2, s3]
  refine tkD HT 5 11 (v := ?_) ?_ ?_
  rotate_left
  · (intro w5 hSw; obtain ⟨q1, q2⟩ := hSw; go_simp; (try with_reducible rfl))
  try simp only [s1, s2, s3]
  refine tkD HT 6 12 (v := ?_) ?_ ?_
  rotate_left
  · (intro w5 hSw; obtain ⟨q1, q2⟩ := hSw; go_simp; (try with_reducible rfl))
  try simp only [s1, s2, s3]
  refine tkD HT 7 13 (v := ?_) ?_ ?_
  rotate_left
  · (intro w5 hSw; obtain ⟨q1, q2⟩ := hSw; go_simp; (try with_reducible rfl))
  try simp only [s1, s2, s3]
  refine tkD HT 8 14 (v := ?_) ?_ ?_
  rotate_left
  · (intro w5 hSw; obtain ⟨q1, q2⟩ := hSw; go_simp; (try with_reducible rfl))
  try simp only [s1, s2, s3]
  refine tkS 9 (fun K5 hK => ?_)
  go_simp
  go_at_call 54
  refine (HF.out _ (Below.refl _ _).drew).mono ?_
  rintro e w6 ⟨lv6, rfl, hg6, hb6⟩
  have HG6 := Lib.hid hg6
  have HB6 := Lib.hid (grew_trans (Below.refl _ Y).drew hb6)
  clear hg6 hb6
  dsimp only
  refine hK.out _ _ ⟨keepc' HC.out.1 HB6.out, keepc' HC.out.2 HB6.out⟩ (fun hS1 => ?_)
  clear hK K5
  try simp only [Act.put, s1, s2, s3]
  have HR6 := Lib.hid (blk_below HBL.out HB6.out)
  obtain ⟨ga, gcap, hlv, -⟩ := own_gids HG6.out
  subst hlv
  obtain ⟨⟨r0, s0⟩, ⟨r1, s1⟩, ⟨r2, s2⟩, ⟨r3, s3⟩⟩ := (And.intro (cell_of HR6.out 0 (v := .int .u64 0) rfl) (And.intro (cell_of HR6.out 1 (v := .int .i64 0) rfl) (And.intro (cell_of HR6.out 2 (v := .bool false) rfl) (cell_of HR6.out 3 (v := .slice none 0 0) rfl))))
  refine tkL 10 (fun K5 hK => ?_)
  go_simp
  refine hK.out _ _ ?_
  clear hK K5
  try simp only [Act.put, s1, s2, s3]
  refine wpAnyM_done (by kernel_rfl) (NoPanic.normal ?_)
  go_wp2
  have hR : ((((w6.setCell ⟨w.heap.size, 0, none⟩ (.int .u64 S.1)).setCell ⟨w.heap.size, 1, none⟩ (.int .i64 S.2.1)).setCell ⟨w.heap.size, 2, none⟩ (.bool S.2.2.1)).setCell ⟨w.heap.size, 3, none⟩ (.slice ga S.2.2.2.length gcap)).heap[w.heap.size]? = some (.cells #[.int .u64 S.1, .int .i64 S.2.1, .bool S.2.2.1, .slice ga S.2.2.2.length gcap] 41 (0, 0)) := by
    rw [setCell_blk (setCell_blk (setCell_blk (setCell_blk HR6.out)))]; rfl
  have hm : Mod (fun k => k = w.heap.size) w6 ((((w6.setCell ⟨w.heap.size, 0, none⟩ (.int .u64 S.1)).setCell ⟨w.heap.size, 1, none⟩ (.int .i64 S.2.1)).setCell ⟨w.heap.size, 2, none⟩ (.bool S.2.2.1)).setCell ⟨w.heap.size, 3, none⟩ (.slice ga S.2.2.2.length gcap)) :=
    (((Mod.cellOf w.heap.size 0 _).trans (Mod.cellOf w.heap.size 1 _)).trans (Mod.cellOf w.heap.size 2 _)).trans (Mod.cellOf w.heap.size 3 _)
  refine bodyPost_ret (resL _ _ _ _ _ _ _ rfl hR) rfl ?_
  refine ⟨_, rfl, ?_, ?_⟩
  · have h1 := hm.own HG6.out (fun g hg e => by have := (World.ownsRow.lt HG6.out g hg).1; have h9 : Y.drew.heap.size = Y.heap.size := rfl; have := HNE.out; omega)
    exact OwnG.mono h1 HSZ.out
  · exact (HW.out.trans (HB6.out.mono HSZ.out)).trans (hm.below (by have := HB6.out.size; have := HSZ.out; omega) (fun k e => by omega))
def NoneP (v : Value) (w : World) (e : Ending) (w' : World) : Prop := e = .returned v ∧ Below w.heap.size w w'
set_option maxRecDepth 100000 in
theorem tick_nil (a b : Int) (w : World) : Calls Try.prog 11 #[.pointer none, .int .i64 a, .int .i64 b] w (NoneP (.slice none 0 0) w) := by
  go_enter Try.func11, Try.ntmps11
  go_wp2
  go_ret
  exact ⟨rfl, by first | exact Below.refl _ _ | exact bel1 _ _⟩
set_option maxRecDepth 100000 in
theorem handle_nil (f a b : Int) (w : World) : Calls Try.prog 17 #[.pointer none, .int .i64 f, .agg #[.int .i64 0, .int .u64 0, .int .i64 0, .int .u64 0, .slice none 0 0, .int .i64 0, .bool false, .int .i64 0, .int .i64 0, .int .u64 0, .int .i64 0, .bool false, .slice none 0 0, .int .i64 0, .int .u64 0, .int .u64 0, .int .u64 0, .int .u64 0, .int .i64 0, .int .u64 0, .int .u64 0, .int .u64 0, .int .u64 0, .int .i64 0, .int .i64 0, .slice none 0 0], .int .i64 a, .int .i64 b] w (NoneP (.slice none 0 0) w) := by
  go_enter Try.func17, Try.ntmps17
  go_wp2
  go_ret
  exact ⟨rfl, by first | exact Below.refl _ _ | exact bel1 _ _⟩
set_option maxRecDepth 100000 in
theorem to_nil (w : World) : Calls Try.prog 24 #[.pointer none] w (NoneP (.slice none 0 0) w) := by
  go_enter Try.func24, Try.ntmps24
  go_wp2
  go_ret
  exact ⟨rfl, by first | exact Below.refl _ _ | exact bel1 _ _⟩
set_option maxRecDepth 100000 in
theorem propose_nil (w : World) : Calls Try.prog 25 #[.pointer none, .agg #[.int .u64 0, .int .i64 0, .int .u64 0, .int .u64 0]] w (NoneP (.int .i64 1) w) := by
  go_enter Try.func25, Try.ntmps25
  go_wp2
  go_ret
  exact ⟨rfl, by first | exact Below.refl _ _ | exact bel1 _ _⟩
set_option maxRecDepth 100000 in
theorem role_nil (w : World) : Calls Try.prog 13 #[.pointer none] w (NoneP (.int .i64 0) w) := by
  go_enter Try.func13, Try.ntmps13
  go_wp2
  go_ret
  exact ⟨rfl, by first | exact Below.refl _ _ | exact bel1 _ _⟩
set_option maxRecDepth 100000 in
theorem head_nil (w : World) : Calls Try.prog 26 #[.pointer none] w (NoneP (.int .i64 (-1)) w) := by
  go_enter Try.func26, Try.ntmps26
  go_wp2
  go_ret
  exact ⟨rfl, by first | exact Below.refl _ _ | exact bel1 _ _⟩
set_option maxRecDepth 100000 in
theorem commit_nil (w : World) : Calls Try.prog 14 #[.pointer none] w (NoneP (.int .i64 0) w) := by
  go_enter Try.func14, Try.ntmps14
  go_wp2
  go_ret
  exact ⟨rfl, by first | exact Below.refl _ _ | exact bel1 _ _⟩
set_option maxRecDepth 100000 in
theorem until_nil (w : World) : Calls Try.prog 15 #[.pointer none] w (NoneP (.int .i64 0) w) := by
  go_enter Try.func15, Try.ntmps15
  go_wp2
  go_ret
  exact ⟨rfl, by first | exact Below.refl _ _ | exact bel1 _ _⟩
set_option maxRecDepth 100000 in
theorem hard_nil (w : World) : Calls Try.prog 12 #[.pointer none] w (NoneP (.agg #[.int .u64 0, .int .i64 0, .slice none 0 0]) w) := by
  go_enter Try.func12, Try.ntmps12
  go_wp2
  refine bodyPost_ret (resH2 _ _ _ _ _ _ rfl (heap_alloc_new w (.cells #[.int .u64 0, .int .i64 0, .slice none 0 0] 26))) rfl ⟨rfl, bel1 _ _⟩
set_option maxRecDepth 100000 in
theorem line_nil (w : World) : Calls Try.prog 27 #[.pointer none] w (NoneP (.agg #[.int .u64 0, .int .i64 0, .bool false, .slice none 0 0]) w) := by
  go_enter Try.func27, Try.ntmps27
  go_wp2
  refine bodyPost_ret (resL _ _ _ _ _ _ _ rfl (heap_alloc_new w (.cells #[.int .u64 0, .int .i64 0, .bool false, .slice none 0 0] 41))) rfl ⟨rfl, bel1 _ _⟩
end Go.Proofs.Ytcleaamjfjnkkaa
