/- Entries that come: the boxes, what goes back. -/
import Derived.Test.YtcleaamjfjnkkaaCo20
import Derived.Deep.DeepCutAuto
namespace Go.Proofs.Ytcleaamjfjnkkaa
open Go.RowKit Go.Joins

/-- a voter, boxes with its place, a number, a message; since w0 the voter alone was turned. -/
structure TakW (w0 : World) (n0 base p : Nat) (lv ov tv : Value) (os : List RM) (f : Int) (mb : Array Value) (c : Co) (w : World) : Prop where
  cat : CAt w base p lv ov tv os c
  b0 : w.heap[n0]? = some (.cells #[.pointer (some ⟨p, 0, none⟩)] 31 (0, 0))
  b1 : w.heap[n0 + 1]? = some (.cells #[.int .i64 f] 3 (0, 0))
  b2 : w.heap[n0 + 1 + 1]? = some (.cells mb 46 (0, 0))
  mod : Mod (fun k => k = p) w0 w
  ne : n0 ≠ p ∧ n0 + 1 ≠ p ∧ n0 + 1 + 1 ≠ p
theorem TakW.below {w0 w w' : World} {n0 base p : Nat} {lv ov tv : Value} {os : List RM} {f : Int} {mb : Array Value} {c : Co} (h : TakW w0 n0 base p lv ov tv os f mb c w) (hb : Below w.heap.size w w') : TakW w0 n0 base p lv ov tv os f mb c w' :=
  ⟨h.cat.below hb, blk_below h.b0 hb, blk_below h.b1 hb, blk_below h.b2 hb, h.mod.trans (Mod.bel hb), h.ne⟩
theorem TakW.put {w0 w w' : World} {n0 base p : Nat} {lv ov tv : Value} {os : List RM} {f : Int} {mb : Array Value} {c c' : Co} (h : TakW w0 n0 base p lv ov tv os f mb c w) (hblk : w'.heap[p]? = some (.cells (coA c' lv ov tv) 76 (0, 0))) (hm : Mod (fun k => k = p) w w') (h1 : c'.log = c.log) (h2 : c'.out = c.out) (h3 : c'.dest = c.dest) (h4 : c'.gh = c.gh := by first | rfl | exact Co.follow_gh _ _) :
    TakW w0 n0 base p lv ov tv os f mb c' w' :=
  ⟨h.cat.put hblk hm h1 h2 h3 h4, hm.heap h.b0 h.ne.1, hm.heap h.b1 h.ne.2.1, hm.heap h.b2 h.ne.2.2, h.mod.trans hm, h.ne⟩
set_option linter.unusedSimpArgs false in
set_option linter.unusedVariables false in
set_option maxHeartbeats 8000000 in
set_option maxRecDepth 100000 in
theorem back_any {w : World} {base p : Nat} {lv ov tv : Value} {os : List RM} {c : Co} (m : Mg) (ea : Option Addr) (en ec : Nat) (r : Nat → Value) (f k : Int) (y : Bool) (n0 : Nat) {w0 : World} (h : TakW w0 n0 base p lv ov tv os f (mArr m ea en ec r) c w) (hl : c.out.length ≤ 80) (hd : c.dest.length ≤ 80) :
    Calls Try.prog 64 #[.bool y, .int .i64 k, .pointer (some ⟨n0, 0, none⟩), .pointer (some ⟨n0 + 1, 0, none⟩), .pointer (some ⟨n0 + 1 + 1, 0, none⟩)] w (Tup0 (CUpd base p lv ov tv (c.back f y k m.stamp) w)) := by
  have x0 := (cell_of h.b0 0 (v := .pointer (some ⟨p, 0, none⟩)) rfl).1
  have x1 := (cell_of h.b1 0 (v := .int .i64 f) rfl).1
  have x2 := (cell_of h.b2 8 (v := .int .i64 m.stamp) rfl).1
  have HS := Lib.hid (send_len f ⟨none, 0, ⟨4, 0, 0, 0, [], 0, y, k, m.stamp⟩⟩ 0 rfl h.cat ⟨Sl.nil _, fun _ _ e => by cases e⟩ (by rw [os_len h.cat]; omega) (by omega))
  clear h hl hd
  go_enter Try.func64, Try.ntmps64
  go_wp2_with (go_at_call 57; refine HS.out.mono ?_; rintro e w1 ⟨rfl, hU⟩)
  go_end0
  exact ⟨rfl, hU⟩
set_option linter.unusedSimpArgs false in
set_option linter.unusedVariables false in
set_option maxHeartbeats 8000000 in
set_option maxRecDepth 100000 in
theorem take_old {w : World} {base p : Nat} {lv ov tv : Value} {os : List RM} {c : Co} (m : Mg) (ea : Option Addr) (en ec : Nat) (r : Nat → Value) (f : Int) (h : CAt w base p lv ov tv os c) (ok : Ok c) (hE : EAt w (CF p lv ov tv) ⟨ea, ec, m⟩) (hen : m.ents.length = en) (ht0 : 0 ≤ m.term) (ht1 : m.term ≤ 18446744073709551615) (hpv : I64 m.prev) (hcm : I64 m.commit) (hle : m.ents.length ≤ 1000) (hwf : ∀ i, i < m.ents.length → wfE (m.ents.getD i default)) (hl : c.out.length ≤ 80) (hd : c.dest.length ≤ 80) (ht : m.term < c.term) :
    Calls Try.prog 47 #[.pointer (some ⟨p, 0, none⟩), .int .i64 f, .agg #[.int .i64 m.kind, .int .u64 m.term, .int .i64 m.prev, .int .u64 m.pterm, .slice ea en ec, .int .i64 m.commit, .bool m.yes, .int .i64 m.mat, .int .i64 m.stamp, r 0, r 1, r 2, r 3, r 4, r 5, r 6, r 7, r 8, r 9, r 10, r 11, r 12, r 13, r 14, r 15, r 16]] w (Tup0 (CUpd base p lv ov tv (c.take f m) w)) := by
  have mixed : Try.prog.follows .mixedOrders = true := by kernel_rfl
  have HW := Lib.hid (show Below w.heap.size w (((w.alloc (.cells #[.pointer (some ⟨p, 0, none⟩)] 31)).alloc (.cells #[.int .i64 f] 3)).alloc (.cells (mArr m ea en ec r) 46)) from (bel1 w _).trans (((bel1 _ _).trans ((bel1 _ _).mono (by simp))).mono (by simp)))
  have A0 := Lib.hid (show TakW (((w.alloc (.cells #[.pointer (some ⟨p, 0, none⟩)] 31)).alloc (.cells #[.int .i64 f] 3)).alloc (.cells (mArr m ea en ec r) 46)) w.heap.size base p lv ov tv os f (mArr m ea en ec r) c (((w.alloc (.cells #[.pointer (some ⟨p, 0, none⟩)] 31)).alloc (.cells #[.int .i64 f] 3)).alloc (.cells (mArr m ea en ec r) 46)) from
    ⟨h.below HW.out, blk_below (blk_below (heap_alloc_new w (.cells #[.pointer (some ⟨p, 0, none⟩)] 31)) (bel1 _ (.cells #[.int .i64 f] 3))) (bel1 _ (.cells (mArr m ea en ec r) 46)), blk_below (heap_alloc2_new w (.cells #[.pointer (some ⟨p, 0, none⟩)] 31) (.cells #[.int .i64 f] 3)) (bel1 _ (.cells (mArr m ea en ec r) 46)), (by have h5 := heap_alloc_new ((w.alloc (.cells #[.pointer (some ⟨p, 0, none⟩)] 31)).alloc (.cells #[.int .i64 f] 3)) (.cells (mArr m ea en ec r) 46); simpa using h5), Mod.refl _ _, by have := h.toCL.lt.1; omega⟩)
  have HL := Lib.hid (And.intro hl hd)
  have x0 := (cell_of A0.out.b0 0 (v := .pointer (some ⟨p, 0, none⟩)) rfl).1
  have x1 := (cell_of A0.out.b1 0 (v := .int .i64 f) rfl).1
  have x2 := (cell_of A0.out.b2 1 (v := .int .u64 m.term) rfl).1
  obtain ⟨g1, g5⟩ := (And.intro A0.out.cat.toCL.cells.1.2.1 A0.out.cat.toCL.cells.1.2.2.2.2.2.1)
  have HT := Lib.hid (show c.take f m = c.send f (mg0 2) by unfold Co.take; rw [if_pos ht])
  have HS := Lib.hid (fun q => send_len f ⟨none, 0, mg0 2⟩ 0 rfl (A0.out.cat.below (below_drewN' _ q)) ⟨Sl.nil _, fun _ _ e => by cases e⟩ (by rw [os_len A0.out.cat]; omega) (by omega))
  clear h ok hE hen ht0 ht1 hpv hcm hle hwf hl hd
  go_enter Try.func47, Try.ntmps47
  go_upto_region 2 with fail
  go_quiet (fail)
  go_wp2_with (go_at_call 57; refine (HS.out _).mono ?_; rintro e w1 ⟨rfl, hU⟩)
  go_end0
  rw [HT.out]
  exact ⟨rfl, CUpd.below (HW.out.trans ((below_drewN' _ _).mono HW.out.size)) hU⟩
set_option linter.unusedSimpArgs false in
set_option linter.unusedVariables false in
set_option maxHeartbeats 8000000 in
set_option maxRecDepth 100000 in
theorem take_mine {w : World} {base p : Nat} {lv ov tv : Value} {os : List RM} {c : Co} (m : Mg) (ea : Option Addr) (en ec : Nat) (r : Nat → Value) (f : Int) (h : CAt w base p lv ov tv os c) (ok : Ok c) (hE : EAt w (CF p lv ov tv) ⟨ea, ec, m⟩) (hen : m.ents.length = en) (ht0 : 0 ≤ m.term) (ht1 : m.term ≤ 18446744073709551615) (hpv : I64 m.prev) (hcm : I64 m.commit) (hle : m.ents.length ≤ 1000) (hwf : ∀ i, i < m.ents.length → wfE (m.ents.getD i default)) (hl : c.out.length ≤ 80) (hd : c.dest.length ≤ 80) (ht : ¬ m.term < c.term) (hr : c.role = 2 ∧ m.term = c.term) :
    Calls Try.prog 47 #[.pointer (some ⟨p, 0, none⟩), .int .i64 f, .agg #[.int .i64 m.kind, .int .u64 m.term, .int .i64 m.prev, .int .u64 m.pterm, .slice ea en ec, .int .i64 m.commit, .bool m.yes, .int .i64 m.mat, .int .i64 m.stamp, r 0, r 1, r 2, r 3, r 4, r 5, r 6, r 7, r 8, r 9, r 10, r 11, r 12, r 13, r 14, r 15, r 16]] w (Tup0 (CUpd base p lv ov tv (c.take f m) w)) := by
  have mixed : Try.prog.follows .mixedOrders = true := by kernel_rfl
  have HW := Lib.hid (show Below w.heap.size w (((w.alloc (.cells #[.pointer (some ⟨p, 0, none⟩)] 31)).alloc (.cells #[.int .i64 f] 3)).alloc (.cells (mArr m ea en ec r) 46)) from (bel1 w _).trans (((bel1 _ _).trans ((bel1 _ _).mono (by simp))).mono (by simp)))
  have A0 := Lib.hid (show TakW (((w.alloc (.cells #[.pointer (some ⟨p, 0, none⟩)] 31)).alloc (.cells #[.int .i64 f] 3)).alloc (.cells (mArr m ea en ec r) 46)) w.heap.size base p lv ov tv os f (mArr m ea en ec r) c (((w.alloc (.cells #[.pointer (some ⟨p, 0, none⟩)] 31)).alloc (.cells #[.int .i64 f] 3)).alloc (.cells (mArr m ea en ec r) 46)) from
    ⟨h.below HW.out, blk_below (blk_below (heap_alloc_new w (.cells #[.pointer (some ⟨p, 0, none⟩)] 31)) (bel1 _ (.cells #[.int .i64 f] 3))) (bel1 _ (.cells (mArr m ea en ec r) 46)), blk_below (heap_alloc2_new w (.cells #[.pointer (some ⟨p, 0, none⟩)] 31) (.cells #[.int .i64 f] 3)) (bel1 _ (.cells (mArr m ea en ec r) 46)), (by have h5 := heap_alloc_new ((w.alloc (.cells #[.pointer (some ⟨p, 0, none⟩)] 31)).alloc (.cells #[.int .i64 f] 3)) (.cells (mArr m ea en ec r) 46); simpa using h5), Mod.refl _ _, by have := h.toCL.lt.1; omega⟩)
  have HL := Lib.hid (And.intro hl hd)
  have x0 := (cell_of A0.out.b0 0 (v := .pointer (some ⟨p, 0, none⟩)) rfl).1
  have x1 := (cell_of A0.out.b1 0 (v := .int .i64 f) rfl).1
  have x2 := (cell_of A0.out.b2 1 (v := .int .u64 m.term) rfl).1
  obtain ⟨g1, g5⟩ := (And.intro A0.out.cat.toCL.cells.1.2.1 A0.out.cat.toCL.cells.1.2.2.2.2.2.1)
  have HT := Lib.hid (show c.take f m = c by unfold Co.take; rw [if_neg ht, if_pos hr])
  have tb : decide (m.term < c.term) = false := decide_eq_false ht
  have hti : c.term ≤ m.term := by omega
  have t1 : (c.role == 2) = true := by simp [hr.1]
  have t2 : (m.term == c.term) = true := by simp [hr.2]
  clear h ok hE hen ht0 ht1 hpv hcm hle hwf hl hd ht hr
  go_enter Try.func47, Try.ntmps47
  go_upto_region 2 with fail
  go_quiet (fail)
  go_upto_region 4 with fail
  go_quiet (fail)
  go_wp2
  go_end0
  rw [HT.out]
  exact ⟨rfl, CUpd.below HW.out (A0.out.cat.stay (by first | exact below_drewN' _ _ | exact grew_trans (below_drewN' _ _) (below_drewN' _ _)))⟩
end Go.Proofs.Ytcleaamjfjnkkaa
