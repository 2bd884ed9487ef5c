/- A vote that comes. -/
import Derived.Test.YtcleaamjfjnkkaaCo10
namespace Go.Proofs.Ytcleaamjfjnkkaa
open Go.RowKit Go.Joins

theorem ok_follow {c : Co} (h : Ok c) {t : Int} (h0 : 0 ≤ t) (h1 : t ≤ 18446744073709551615) : Ok (c.follow t) := by
  unfold Co.follow
  split
  · exact ⟨h.me, ⟨h0, h1⟩, by simp, h.log, h.wf, h.commit, h.heard, h.since, h.now, h.timeout, h.pr, fun e => by simp at e⟩
  · exact h
theorem ok_votes {c : Co} (h : Ok c) (v : Nat) (b : Bool) : Ok (c.setPr v { c.pr v with votes := b }) := by
  refine ⟨h.me, h.term, h.voted, h.log, h.wf, h.commit, h.heard, h.since, h.now, h.timeout, fun k hk => ?_, fun e k hk => ?_⟩
  · unfold Co.setPr; by_cases e : k = v
    · subst e; simpa using h.pr k hk
    · simpa [e] using h.pr k hk
  · unfold Co.setPr; by_cases e2 : k = v
    · subst e2; simpa using h.led e k hk
    · simpa [e2] using h.led e k hk
theorem follow_out (c : Co) (t : Int) : (c.follow t).out = c.out ∧ (c.follow t).dest = c.dest ∧ (c.follow t).log = c.log ∧ (c.follow t).pr = c.pr ∧ (c.follow t).me = c.me ∧ (c.follow t).now = c.now ∧ (c.follow t).commit = c.commit := by
  unfold Co.follow; split <;> exact ⟨rfl, rfl, rfl, rfl, rfl, rfl, rfl⟩
set_option linter.unusedSimpArgs false in
set_option linter.unusedVariables false in
set_option maxHeartbeats 8000000 in
set_option maxRecDepth 100000 in
theorem vote0a {w : World} {base p : Nat} {lv ov tv : Value} {os : List RM} {c : Co} (m : Mg) (ea : Option Addr) (en ec : Nat) (r : Nat → Value) (h : CAt w base p lv ov tv os c) (ok : Ok c) (ht0 : 0 ≤ m.term) (ht1 : m.term ≤ 18446744073709551615) (hl : c.out.length ≤ 80) (hd : c.dest.length ≤ 80) (hr : (c.follow m.term).role ≠ 1) :
    Calls Try.prog 46 #[.pointer (some ⟨p, 0, none⟩), .int .i64 0, .agg #[.int .i64 m.kind, .int .u64 m.term, .int .i64 m.prev, .int .u64 m.pterm, .slice ea en ec, .int .i64 m.commit, .bool m.yes, .int .i64 m.mat, .int .i64 m.stamp, r 0, r 1, r 2, r 3, r 4, r 5, r 6, r 7, r 8, r 9, r 10, r 11, r 12, r 13, r 14, r 15, r 16]] w (Tup0 (CUpd base p lv ov tv (c.vote 0 m) w)) := by
  have mixed : Try.prog.follows .mixedOrders = true := by kernel_rfl
  have HW := Lib.hid (bel1 w (.cells #[.int .i64 m.kind, .int .u64 m.term, .int .i64 m.prev, .int .u64 m.pterm, .slice ea en ec, .int .i64 m.commit, .bool m.yes, .int .i64 m.mat, .int .i64 m.stamp, r 0, r 1, r 2, r 3, r 4, r 5, r 6, r 7, r 8, r 9, r 10, r 11, r 12, r 13, r 14, r 15, r 16] 46))
  have HBL := Lib.hid (heap_alloc_new w (.cells #[.int .i64 m.kind, .int .u64 m.term, .int .i64 m.prev, .int .u64 m.pterm, .slice ea en ec, .int .i64 m.commit, .bool m.yes, .int .i64 m.mat, .int .i64 m.stamp, r 0, r 1, r 2, r 3, r 4, r 5, r 6, r 7, r 8, r 9, r 10, r 11, r 12, r 13, r 14, r 15, r 16] 46))
  have hne : Hid (w.heap.size ≠ p) := by have := h.toCL.lt.1; show w.heap.size ≠ p; omega
  have HF := Lib.hid (follow_any m.term (h.below HW.out))
  have b1 := (cell_of HBL.out 1 (v := .int .u64 m.term) rfl).1
  have HOK := Lib.hid (ok_follow ok ht0 ht1)
  have HO := Lib.hid (follow_out c m.term)
  have HL := Lib.hid (And.intro hl hd)
  have HV := Lib.hid (show c.vote 0 m = c.follow m.term by unfold Co.vote; simp only; rw [if_neg (by exact fun e => hr e.1)])
  have t1 : ((c.follow m.term).role != 1) = true := by simp [hr]
  generalize c.follow m.term = d at *
  clear h ok ht0 ht1 hl hd hr
  go_enter Try.func46, Try.ntmps46
  go_upto_region 2 with (go_at_call 61; refine HF.out.mono ?_; rintro e w1 ⟨rfl, hC, hM⟩; have C1 := Lib.hid hC; have M1 := Lib.hid hM; have hB1 := hM.heap HBL.out hne.out; obtain ⟨k1, k6⟩ := (And.intro (cell_of hB1 1 (v := .int .u64 m.term) rfl).1 (cell_of hB1 6 (v := .bool m.yes) rfl).1); obtain ⟨g1, g5⟩ := (And.intro hC.toCL.cells.1.2.1 hC.toCL.cells.1.2.2.2.2.2.1); clear hC hM hB1)
  go_quiet (fail)
  go_wp2
  go_end0
  rw [HV.out]
  exact ⟨rfl, CUpd.below HW.out (CUpd.then (M1.out.mono (fun _ _ e => Or.inl e)) (fun _ hk => .inl hk) (C1.out.stay (below_drewN' _ _)))⟩
set_option linter.unusedSimpArgs false in
set_option linter.unusedVariables false in
set_option maxHeartbeats 8000000 in
set_option maxRecDepth 100000 in
theorem vote0b {w : World} {base p : Nat} {lv ov tv : Value} {os : List RM} {c : Co} (m : Mg) (ea : Option Addr) (en ec : Nat) (r : Nat → Value) (h : CAt w base p lv ov tv os c) (ok : Ok c) (ht0 : 0 ≤ m.term) (ht1 : m.term ≤ 18446744073709551615) (hl : c.out.length ≤ 80) (hd : c.dest.length ≤ 80) (hr : (c.follow m.term).role = 1) (ht : m.term ≠ (c.follow m.term).term) :
    Calls Try.prog 46 #[.pointer (some ⟨p, 0, none⟩), .int .i64 0, .agg #[.int .i64 m.kind, .int .u64 m.term, .int .i64 m.prev, .int .u64 m.pterm, .slice ea en ec, .int .i64 m.commit, .bool m.yes, .int .i64 m.mat, .int .i64 m.stamp, r 0, r 1, r 2, r 3, r 4, r 5, r 6, r 7, r 8, r 9, r 10, r 11, r 12, r 13, r 14, r 15, r 16]] w (Tup0 (CUpd base p lv ov tv (c.vote 0 m) w)) := by
  have mixed : Try.prog.follows .mixedOrders = true := by kernel_rfl
  have HW := Lib.hid (bel1 w (.cells #[.int .i64 m.kind, .int .u64 m.term, .int .i64 m.prev, .int .u64 m.pterm, .slice ea en ec, .int .i64 m.commit, .bool m.yes, .int .i64 m.mat, .int .i64 m.stamp, r 0, r 1, r 2, r 3, r 4, r 5, r 6, r 7, r 8, r 9, r 10, r 11, r 12, r 13, r 14, r 15, r 16] 46))
  have HBL := Lib.hid (heap_alloc_new w (.cells #[.int .i64 m.kind, .int .u64 m.term, .int .i64 m.prev, .int .u64 m.pterm, .slice ea en ec, .int .i64 m.commit, .bool m.yes, .int .i64 m.mat, .int .i64 m.stamp, r 0, r 1, r 2, r 3, r 4, r 5, r 6, r 7, r 8, r 9, r 10, r 11, r 12, r 13, r 14, r 15, r 16] 46))
  have hne : Hid (w.heap.size ≠ p) := by have := h.toCL.lt.1; show w.heap.size ≠ p; omega
  have HF := Lib.hid (follow_any m.term (h.below HW.out))
  have b1 := (cell_of HBL.out 1 (v := .int .u64 m.term) rfl).1
  have HOK := Lib.hid (ok_follow ok ht0 ht1)
  have HO := Lib.hid (follow_out c m.term)
  have HL := Lib.hid (And.intro hl hd)
  have HV := Lib.hid (show c.vote 0 m = c.follow m.term by unfold Co.vote; simp only; rw [if_neg (by exact fun e => ht e.2.1)])
  have t1 : ((c.follow m.term).role != 1) = false := by simp [hr]
  have t2 : (m.term != (c.follow m.term).term) = true := by simp [ht]
  generalize c.follow m.term = d at *
  clear h ok ht0 ht1 hl hd hr ht
  go_enter Try.func46, Try.ntmps46
  go_upto_region 2 with (go_at_call 61; refine HF.out.mono ?_; rintro e w1 ⟨rfl, hC, hM⟩; have C1 := Lib.hid hC; have M1 := Lib.hid hM; have hB1 := hM.heap HBL.out hne.out; obtain ⟨k1, k6⟩ := (And.intro (cell_of hB1 1 (v := .int .u64 m.term) rfl).1 (cell_of hB1 6 (v := .bool m.yes) rfl).1); obtain ⟨g1, g5⟩ := (And.intro hC.toCL.cells.1.2.1 hC.toCL.cells.1.2.2.2.2.2.1); clear hC hM hB1)
  go_quiet (fail)
  go_wp2
  go_end0
  rw [HV.out]
  exact ⟨rfl, CUpd.below HW.out (CUpd.then (M1.out.mono (fun _ _ e => Or.inl e)) (fun _ hk => .inl hk) (C1.out.stay (below_drewN' _ _)))⟩
set_option linter.unusedSimpArgs false in
set_option linter.unusedVariables false in
set_option maxHeartbeats 8000000 in
set_option maxRecDepth 100000 in
theorem vote0c {w : World} {base p : Nat} {lv ov tv : Value} {os : List RM} {c : Co} (m : Mg) (ea : Option Addr) (en ec : Nat) (r : Nat → Value) (h : CAt w base p lv ov tv os c) (ok : Ok c) (ht0 : 0 ≤ m.term) (ht1 : m.term ≤ 18446744073709551615) (hl : c.out.length ≤ 80) (hd : c.dest.length ≤ 80) (hr : (c.follow m.term).role = 1) (ht : m.term = (c.follow m.term).term) (hy : m.yes = false) :
    Calls Try.prog 46 #[.pointer (some ⟨p, 0, none⟩), .int .i64 0, .agg #[.int .i64 m.kind, .int .u64 m.term, .int .i64 m.prev, .int .u64 m.pterm, .slice ea en ec, .int .i64 m.commit, .bool m.yes, .int .i64 m.mat, .int .i64 m.stamp, r 0, r 1, r 2, r 3, r 4, r 5, r 6, r 7, r 8, r 9, r 10, r 11, r 12, r 13, r 14, r 15, r 16]] w (Tup0 (CUpd base p lv ov tv (c.vote 0 m) w)) := by
  have mixed : Try.prog.follows .mixedOrders = true := by kernel_rfl
  have HW := Lib.hid (bel1 w (.cells #[.int .i64 m.kind, .int .u64 m.term, .int .i64 m.prev, .int .u64 m.pterm, .slice ea en ec, .int .i64 m.commit, .bool m.yes, .int .i64 m.mat, .int .i64 m.stamp, r 0, r 1, r 2, r 3, r 4, r 5, r 6, r 7, r 8, r 9, r 10, r 11, r 12, r 13, r 14, r 15, r 16] 46))
  have HBL := Lib.hid (heap_alloc_new w (.cells #[.int .i64 m.kind, .int .u64 m.term, .int .i64 m.prev, .int .u64 m.pterm, .slice ea en ec, .int .i64 m.commit, .bool m.yes, .int .i64 m.mat, .int .i64 m.stamp, r 0, r 1, r 2, r 3, r 4, r 5, r 6, r 7, r 8, r 9, r 10, r 11, r 12, r 13, r 14, r 15, r 16] 46))
  have hne : Hid (w.heap.size ≠ p) := by have := h.toCL.lt.1; show w.heap.size ≠ p; omega
  have HF := Lib.hid (follow_any m.term (h.below HW.out))
  have b1 := (cell_of HBL.out 1 (v := .int .u64 m.term) rfl).1
  have HOK := Lib.hid (ok_follow ok ht0 ht1)
  have HO := Lib.hid (follow_out c m.term)
  have HL := Lib.hid (And.intro hl hd)
  have HV := Lib.hid (show c.vote 0 m = c.follow m.term by unfold Co.vote; simp only; rw [if_neg (by rw [hy]; simp)])
  have t1 : ((c.follow m.term).role != 1) = false := by simp [hr]
  have t2 : (m.term != (c.follow m.term).term) = false := by rw [← ht]; simp
  have HY := Lib.hid hy
  generalize c.follow m.term = d at *
  clear h ok ht0 ht1 hl hd hr ht hy
  go_enter Try.func46, Try.ntmps46
  go_upto_region 2 with (go_at_call 61; refine HF.out.mono ?_; rintro e w1 ⟨rfl, hC, hM⟩; have C1 := Lib.hid hC; have M1 := Lib.hid hM; have hB1 := hM.heap HBL.out hne.out; obtain ⟨k1, k6⟩ := (And.intro (cell_of hB1 1 (v := .int .u64 m.term) rfl).1 (cell_of hB1 6 (v := .bool m.yes) rfl).1); obtain ⟨g1, g5⟩ := (And.intro hC.toCL.cells.1.2.1 hC.toCL.cells.1.2.2.2.2.2.1); clear hC hM hB1)
  rw [HY.out] at k6
  go_quiet (fail)
  go_wp2
  go_end0
  rw [HV.out]
  exact ⟨rfl, CUpd.below HW.out (CUpd.then (M1.out.mono (fun _ _ e => Or.inl e)) (fun _ hk => .inl hk) (C1.out.stay (below_drewN' _ _)))⟩
set_option linter.unusedSimpArgs false in
set_option linter.unusedVariables false in
set_option maxHeartbeats 8000000 in
set_option maxRecDepth 100000 in
theorem vote0d {w : World} {base p : Nat} {lv ov tv : Value} {os : List RM} {c : Co} (m : Mg) (ea : Option Addr) (en ec : Nat) (r : Nat → Value) (h : CAt w base p lv ov tv os c) (ok : Ok c) (ht0 : 0 ≤ m.term) (ht1 : m.term ≤ 18446744073709551615) (hl : c.out.length ≤ 80) (hd : c.dest.length ≤ 80) (hr : (c.follow m.term).role = 1) (ht : m.term = (c.follow m.term).term) (hy : m.yes = true) :
    Calls Try.prog 46 #[.pointer (some ⟨p, 0, none⟩), .int .i64 0, .agg #[.int .i64 m.kind, .int .u64 m.term, .int .i64 m.prev, .int .u64 m.pterm, .slice ea en ec, .int .i64 m.commit, .bool m.yes, .int .i64 m.mat, .int .i64 m.stamp, r 0, r 1, r 2, r 3, r 4, r 5, r 6, r 7, r 8, r 9, r 10, r 11, r 12, r 13, r 14, r 15, r 16]] w (Tup0 (CUpd base p lv ov tv (c.vote 0 m) w)) := by
  have mixed : Try.prog.follows .mixedOrders = true := by kernel_rfl
  have HW := Lib.hid (bel1 w (.cells #[.int .i64 m.kind, .int .u64 m.term, .int .i64 m.prev, .int .u64 m.pterm, .slice ea en ec, .int .i64 m.commit, .bool m.yes, .int .i64 m.mat, .int .i64 m.stamp, r 0, r 1, r 2, r 3, r 4, r 5, r 6, r 7, r 8, r 9, r 10, r 11, r 12, r 13, r 14, r 15, r 16] 46))
  have HBL := Lib.hid (heap_alloc_new w (.cells #[.int .i64 m.kind, .int .u64 m.term, .int .i64 m.prev, .int .u64 m.pterm, .slice ea en ec, .int .i64 m.commit, .bool m.yes, .int .i64 m.mat, .int .i64 m.stamp, r 0, r 1, r 2, r 3, r 4, r 5, r 6, r 7, r 8, r 9, r 10, r 11, r 12, r 13, r 14, r 15, r 16] 46))
  have hne : Hid (w.heap.size ≠ p) := by have := h.toCL.lt.1; show w.heap.size ≠ p; omega
  have HF := Lib.hid (follow_any m.term (h.below HW.out))
  have b1 := (cell_of HBL.out 1 (v := .int .u64 m.term) rfl).1
  have HOK := Lib.hid (ok_follow ok ht0 ht1)
  have HO := Lib.hid (follow_out c m.term)
  have HL := Lib.hid (And.intro hl hd)
  have HV := Lib.hid (show c.vote 0 m = ((c.follow m.term).setPr 0 { (c.follow m.term).pr 0 with votes := true }).lead by unfold Co.vote; simp only; rw [if_pos ⟨hr, ht, hy⟩])
  have t1 : ((c.follow m.term).role != 1) = false := by simp [hr]
  have t2 : (m.term != (c.follow m.term).term) = false := by rw [← ht]; simp
  generalize c.follow m.term = d at *
  have HY := Lib.hid hy
  clear h ok ht0 ht1 hl hd hr ht hy
  go_enter Try.func46, Try.ntmps46
  go_upto_region 2 with (go_at_call 61; refine HF.out.mono ?_; rintro e w1 ⟨rfl, hC, hM⟩; have C1 := Lib.hid hC; have M1 := Lib.hid hM; have hB1 := hM.heap HBL.out hne.out; obtain ⟨k1, k6⟩ := (And.intro (cell_of hB1 1 (v := .int .u64 m.term) rfl).1 (cell_of hB1 6 (v := .bool m.yes) rfl).1); obtain ⟨g1, g5⟩ := (And.intro hC.toCL.cells.1.2.1 hC.toCL.cells.1.2.2.2.2.2.1); clear hC hM hB1)
  rw [HY.out] at k6
  go_quiet (fail)
  obtain ⟨z1, z2⟩ := cell_of (C1.out.below (below_drewN' w1 nq)).blk 16 (v := .bool (d.pr 0).votes) rfl
  have H2 := Lib.hid ((C1.out.below (below_drewN' w1 nq)).put (c' := d.setPr 0 { d.pr 0 with votes := true }) (w' := (w1.drewN nq).setCell ⟨p, 16, none⟩ (.bool true)) (by rw [setCell_blk (C1.out.below (below_drewN' w1 nq)).blk]; rfl) (Mod.cellOf p 16 _) rfl rfl rfl)
  go_wp2_with (go_at_call 63; refine (lead_any (H2.out.below (by exact Below.refl _ _)) (ok_votes HOK.out 0 true) (by have := HL.out.1; have e := HO.out.1; show d.out.length ≤ 90; rw [e]; omega) (by have := HL.out.2; have e := HO.out.2.1; show d.dest.length ≤ 90; rw [e]; omega)).mono ?_; rintro e w3 ⟨rfl, hU⟩)
  go_end0
  rw [HV.out]
  exact ⟨rfl, CUpd.below HW.out (CUpd.then ((M1.out.mono (fun _ _ e => Or.inl e)).trans ((Mod.bel (below_drewN' w1 nq)).trans ((Mod.cellOf p 16 _).mono (fun _ _ e => Or.inl e)))) (fun _ hk => .inl hk) hU)⟩
set_option linter.unusedSimpArgs false in
set_option linter.unusedVariables false in
set_option maxHeartbeats 8000000 in
set_option maxRecDepth 100000 in
theorem vote1a {w : World} {base p : Nat} {lv ov tv : Value} {os : List RM} {c : Co} (m : Mg) (ea : Option Addr) (en ec : Nat) (r : Nat → Value) (h : CAt w base p lv ov tv os c) (ok : Ok c) (ht0 : 0 ≤ m.term) (ht1 : m.term ≤ 18446744073709551615) (hl : c.out.length ≤ 80) (hd : c.dest.length ≤ 80) (hr : (c.follow m.term).role ≠ 1) :
    Calls Try.prog 46 #[.pointer (some ⟨p, 0, none⟩), .int .i64 1, .agg #[.int .i64 m.kind, .int .u64 m.term, .int .i64 m.prev, .int .u64 m.pterm, .slice ea en ec, .int .i64 m.commit, .bool m.yes, .int .i64 m.mat, .int .i64 m.stamp, r 0, r 1, r 2, r 3, r 4, r 5, r 6, r 7, r 8, r 9, r 10, r 11, r 12, r 13, r 14, r 15, r 16]] w (Tup0 (CUpd base p lv ov tv (c.vote 1 m) w)) := by
  have mixed : Try.prog.follows .mixedOrders = true := by kernel_rfl
  have HW := Lib.hid (bel1 w (.cells #[.int .i64 m.kind, .int .u64 m.term, .int .i64 m.prev, .int .u64 m.pterm, .slice ea en ec, .int .i64 m.commit, .bool m.yes, .int .i64 m.mat, .int .i64 m.stamp, r 0, r 1, r 2, r 3, r 4, r 5, r 6, r 7, r 8, r 9, r 10, r 11, r 12, r 13, r 14, r 15, r 16] 46))
  have HBL := Lib.hid (heap_alloc_new w (.cells #[.int .i64 m.kind, .int .u64 m.term, .int .i64 m.prev, .int .u64 m.pterm, .slice ea en ec, .int .i64 m.commit, .bool m.yes, .int .i64 m.mat, .int .i64 m.stamp, r 0, r 1, r 2, r 3, r 4, r 5, r 6, r 7, r 8, r 9, r 10, r 11, r 12, r 13, r 14, r 15, r 16] 46))
  have hne : Hid (w.heap.size ≠ p) := by have := h.toCL.lt.1; show w.heap.size ≠ p; omega
  have HF := Lib.hid (follow_any m.term (h.below HW.out))
  have b1 := (cell_of HBL.out 1 (v := .int .u64 m.term) rfl).1
  have HOK := Lib.hid (ok_follow ok ht0 ht1)
  have HO := Lib.hid (follow_out c m.term)
  have HL := Lib.hid (And.intro hl hd)
  have HV := Lib.hid (show c.vote 1 m = c.follow m.term by unfold Co.vote; simp only; rw [if_neg (by exact fun e => hr e.1)])
  have t1 : ((c.follow m.term).role != 1) = true := by simp [hr]
  generalize c.follow m.term = d at *
  clear h ok ht0 ht1 hl hd hr
  go_enter Try.func46, Try.ntmps46
  go_upto_region 2 with (go_at_call 61; refine HF.out.mono ?_; rintro e w1 ⟨rfl, hC, hM⟩; have C1 := Lib.hid hC; have M1 := Lib.hid hM; have hB1 := hM.heap HBL.out hne.out; obtain ⟨k1, k6⟩ := (And.intro (cell_of hB1 1 (v := .int .u64 m.term) rfl).1 (cell_of hB1 6 (v := .bool m.yes) rfl).1); obtain ⟨g1, g5⟩ := (And.intro hC.toCL.cells.1.2.1 hC.toCL.cells.1.2.2.2.2.2.1); clear hC hM hB1)
  go_quiet (fail)
  go_wp2
  go_end0
  rw [HV.out]
  exact ⟨rfl, CUpd.below HW.out (CUpd.then (M1.out.mono (fun _ _ e => Or.inl e)) (fun _ hk => .inl hk) (C1.out.stay (below_drewN' _ _)))⟩
set_option linter.unusedSimpArgs false in
set_option linter.unusedVariables false in
set_option maxHeartbeats 8000000 in
set_option maxRecDepth 100000 in
theorem vote1b {w : World} {base p : Nat} {lv ov tv : Value} {os : List RM} {c : Co} (m : Mg) (ea : Option Addr) (en ec : Nat) (r : Nat → Value) (h : CAt w base p lv ov tv os c) (ok : Ok c) (ht0 : 0 ≤ m.term) (ht1 : m.term ≤ 18446744073709551615) (hl : c.out.length ≤ 80) (hd : c.dest.length ≤ 80) (hr : (c.follow m.term).role = 1) (ht : m.term ≠ (c.follow m.term).term) :
    Calls Try.prog 46 #[.pointer (some ⟨p, 0, none⟩), .int .i64 1, .agg #[.int .i64 m.kind, .int .u64 m.term, .int .i64 m.prev, .int .u64 m.pterm, .slice ea en ec, .int .i64 m.commit, .bool m.yes, .int .i64 m.mat, .int .i64 m.stamp, r 0, r 1, r 2, r 3, r 4, r 5, r 6, r 7, r 8, r 9, r 10, r 11, r 12, r 13, r 14, r 15, r 16]] w (Tup0 (CUpd base p lv ov tv (c.vote 1 m) w)) := by
  have mixed : Try.prog.follows .mixedOrders = true := by kernel_rfl
  have HW := Lib.hid (bel1 w (.cells #[.int .i64 m.kind, .int .u64 m.term, .int .i64 m.prev, .int .u64 m.pterm, .slice ea en ec, .int .i64 m.commit, .bool m.yes, .int .i64 m.mat, .int .i64 m.stamp, r 0, r 1, r 2, r 3, r 4, r 5, r 6, r 7, r 8, r 9, r 10, r 11, r 12, r 13, r 14, r 15, r 16] 46))
  have HBL := Lib.hid (heap_alloc_new w (.cells #[.int .i64 m.kind, .int .u64 m.term, .int .i64 m.prev, .int .u64 m.pterm, .slice ea en ec, .int .i64 m.commit, .bool m.yes, .int .i64 m.mat, .int .i64 m.stamp, r 0, r 1, r 2, r 3, r 4, r 5, r 6, r 7, r 8, r 9, r 10, r 11, r 12, r 13, r 14, r 15, r 16] 46))
  have hne : Hid (w.heap.size ≠ p) := by have := h.toCL.lt.1; show w.heap.size ≠ p; omega
  have HF := Lib.hid (follow_any m.term (h.below HW.out))
  have b1 := (cell_of HBL.out 1 (v := .int .u64 m.term) rfl).1
  have HOK := Lib.hid (ok_follow ok ht0 ht1)
  have HO := Lib.hid (follow_out c m.term)
  have HL := Lib.hid (And.intro hl hd)
  have HV := Lib.hid (show c.vote 1 m = c.follow m.term by unfold Co.vote; simp only; rw [if_neg (by exact fun e => ht e.2.1)])
  have t1 : ((c.follow m.term).role != 1) = false := by simp [hr]
  have t2 : (m.term != (c.follow m.term).term) = true := by simp [ht]
  generalize c.follow m.term = d at *
  clear h ok ht0 ht1 hl hd hr ht
  go_enter Try.func46, Try.ntmps46
  go_upto_region 2 with (go_at_call 61; refine HF.out.mono ?_; rintro e w1 ⟨rfl, hC, hM⟩; have C1 := Lib.hid hC; have M1 := Lib.hid hM; have hB1 := hM.heap HBL.out hne.out; obtain ⟨k1, k6⟩ := (And.intro (cell_of hB1 1 (v := .int .u64 m.term) rfl).1 (cell_of hB1 6 (v := .bool m.yes) rfl).1); obtain ⟨g1, g5⟩ := (And.intro hC.toCL.cells.1.2.1 hC.toCL.cells.1.2.2.2.2.2.1); clear hC hM hB1)
  go_quiet (fail)
  go_wp2
  go_end0
  rw [HV.out]
  exact ⟨rfl, CUpd.below HW.out (CUpd.then (M1.out.mono (fun _ _ e => Or.inl e)) (fun _ hk => .inl hk) (C1.out.stay (below_drewN' _ _)))⟩
set_option linter.unusedSimpArgs false in
set_option linter.unusedVariables false in
set_option maxHeartbeats 8000000 in
set_option maxRecDepth 100000 in
theorem vote1c {w : World} {base p : Nat} {lv ov tv : Value} {os : List RM} {c : Co} (m : Mg) (ea : Option Addr) (en ec : Nat) (r : Nat → Value) (h : CAt w base p lv ov tv os c) (ok : Ok c) (ht0 : 0 ≤ m.term) (ht1 : m.term ≤ 18446744073709551615) (hl : c.out.length ≤ 80) (hd : c.dest.length ≤ 80) (hr : (c.follow m.term).role = 1) (ht : m.term = (c.follow m.term).term) (hy : m.yes = false) :
    Calls Try.prog 46 #[.pointer (some ⟨p, 0, none⟩), .int .i64 1, .agg #[.int .i64 m.kind, .int .u64 m.term, .int .i64 m.prev, .int .u64 m.pterm, .slice ea en ec, .int .i64 m.commit, .bool m.yes, .int .i64 m.mat, .int .i64 m.stamp, r 0, r 1, r 2, r 3, r 4, r 5, r 6, r 7, r 8, r 9, r 10, r 11, r 12, r 13, r 14, r 15, r 16]] w (Tup0 (CUpd base p lv ov tv (c.vote 1 m) w)) := by
  have mixed : Try.prog.follows .mixedOrders = true := by kernel_rfl
  have HW := Lib.hid (bel1 w (.cells #[.int .i64 m.kind, .int .u64 m.term, .int .i64 m.prev, .int .u64 m.pterm, .slice ea en ec, .int .i64 m.commit, .bool m.yes, .int .i64 m.mat, .int .i64 m.stamp, r 0, r 1, r 2, r 3, r 4, r 5, r 6, r 7, r 8, r 9, r 10, r 11, r 12, r 13, r 14, r 15, r 16] 46))
  have HBL := Lib.hid (heap_alloc_new w (.cells #[.int .i64 m.kind, .int .u64 m.term, .int .i64 m.prev, .int .u64 m.pterm, .slice ea en ec, .int .i64 m.commit, .bool m.yes, .int .i64 m.mat, .int .i64 m.stamp, r 0, r 1, r 2, r 3, r 4, r 5, r 6, r 7, r 8, r 9, r 10, r 11, r 12, r 13, r 14, r 15, r 16] 46))
  have hne : Hid (w.heap.size ≠ p) := by have := h.toCL.lt.1; show w.heap.size ≠ p; omega
  have HF := Lib.hid (follow_any m.term (h.below HW.out))
  have b1 := (cell_of HBL.out 1 (v := .int .u64 m.term) rfl).1
  have HOK := Lib.hid (ok_follow ok ht0 ht1)
  have HO := Lib.hid (follow_out c m.term)
  have HL := Lib.hid (And.intro hl hd)
  have HV := Lib.hid (show c.vote 1 m = c.follow m.term by unfold Co.vote; simp only; rw [if_neg (by rw [hy]; simp)])
  have t1 : ((c.follow m.term).role != 1) = false := by simp [hr]
  have t2 : (m.term != (c.follow m.term).term) = false := by rw [← ht]; simp
  have HY := Lib.hid hy
  generalize c.follow m.term = d at *
  clear h ok ht0 ht1 hl hd hr ht hy
  go_enter Try.func46, Try.ntmps46
  go_upto_region 2 with (go_at_call 61; refine HF.out.mono ?_; rintro e w1 ⟨rfl, hC, hM⟩; have C1 := Lib.hid hC; have M1 := Lib.hid hM; have hB1 := hM.heap HBL.out hne.out; obtain ⟨k1, k6⟩ := (And.intro (cell_of hB1 1 (v := .int .u64 m.term) rfl).1 (cell_of hB1 6 (v := .bool m.yes) rfl).1); obtain ⟨g1, g5⟩ := (And.intro hC.toCL.cells.1.2.1 hC.toCL.cells.1.2.2.2.2.2.1); clear hC hM hB1)
  rw [HY.out] at k6
  go_quiet (fail)
  go_wp2
  go_end0
  rw [HV.out]
  exact ⟨rfl, CUpd.below HW.out (CUpd.then (M1.out.mono (fun _ _ e => Or.inl e)) (fun _ hk => .inl hk) (C1.out.stay (below_drewN' _ _)))⟩
set_option linter.unusedSimpArgs false in
set_option linter.unusedVariables false in
set_option maxHeartbeats 8000000 in
set_option maxRecDepth 100000 in
theorem vote1d {w : World} {base p : Nat} {lv ov tv : Value} {os : List RM} {c : Co} (m : Mg) (ea : Option Addr) (en ec : Nat) (r : Nat → Value) (h : CAt w base p lv ov tv os c) (ok : Ok c) (ht0 : 0 ≤ m.term) (ht1 : m.term ≤ 18446744073709551615) (hl : c.out.length ≤ 80) (hd : c.dest.length ≤ 80) (hr : (c.follow m.term).role = 1) (ht : m.term = (c.follow m.term).term) (hy : m.yes = true) :
    Calls Try.prog 46 #[.pointer (some ⟨p, 0, none⟩), .int .i64 1, .agg #[.int .i64 m.kind, .int .u64 m.term, .int .i64 m.prev, .int .u64 m.pterm, .slice ea en ec, .int .i64 m.commit, .bool m.yes, .int .i64 m.mat, .int .i64 m.stamp, r 0, r 1, r 2, r 3, r 4, r 5, r 6, r 7, r 8, r 9, r 10, r 11, r 12, r 13, r 14, r 15, r 16]] w (Tup0 (CUpd base p lv ov tv (c.vote 1 m) w)) := by
  have mixed : Try.prog.follows .mixedOrders = true := by kernel_rfl
  have HW := Lib.hid (bel1 w (.cells #[.int .i64 m.kind, .int .u64 m.term, .int .i64 m.prev, .int .u64 m.pterm, .slice ea en ec, .int .i64 m.commit, .bool m.yes, .int .i64 m.mat, .int .i64 m.stamp, r 0, r 1, r 2, r 3, r 4, r 5, r 6, r 7, r 8, r 9, r 10, r 11, r 12, r 13, r 14, r 15, r 16] 46))
  have HBL := Lib.hid (heap_alloc_new w (.cells #[.int .i64 m.kind, .int .u64 m.term, .int .i64 m.prev, .int .u64 m.pterm, .slice ea en ec, .int .i64 m.commit, .bool m.yes, .int .i64 m.mat, .int .i64 m.stamp, r 0, r 1, r 2, r 3, r 4, r 5, r 6, r 7, r 8, r 9, r 10, r 11, r 12, r 13, r 14, r 15, r 16] 46))
  have hne : Hid (w.heap.size ≠ p) := by have := h.toCL.lt.1; show w.heap.size ≠ p; omega
  have HF := Lib.hid (follow_any m.term (h.below HW.out))
  have b1 := (cell_of HBL.out 1 (v := .int .u64 m.term) rfl).1
  have HOK := Lib.hid (ok_follow ok ht0 ht1)
  have HO := Lib.hid (follow_out c m.term)
  have HL := Lib.hid (And.intro hl hd)
  have HV := Lib.hid (show c.vote 1 m = ((c.follow m.term).setPr 1 { (c.follow m.term).pr 1 with votes := true }).lead by unfold Co.vote; simp only; rw [if_pos ⟨hr, ht, hy⟩])
  have t1 : ((c.follow m.term).role != 1) = false := by simp [hr]
  have t2 : (m.term != (c.follow m.term).term) = false := by rw [← ht]; simp
  generalize c.follow m.term = d at *
  have HY := Lib.hid hy
  clear h ok ht0 ht1 hl hd hr ht hy
  go_enter Try.func46, Try.ntmps46
  go_upto_region 2 with (go_at_call 61; refine HF.out.mono ?_; rintro e w1 ⟨rfl, hC, hM⟩; have C1 := Lib.hid hC; have M1 := Lib.hid hM; have hB1 := hM.heap HBL.out hne.out; obtain ⟨k1, k6⟩ := (And.intro (cell_of hB1 1 (v := .int .u64 m.term) rfl).1 (cell_of hB1 6 (v := .bool m.yes) rfl).1); obtain ⟨g1, g5⟩ := (And.intro hC.toCL.cells.1.2.1 hC.toCL.cells.1.2.2.2.2.2.1); clear hC hM hB1)
  rw [HY.out] at k6
  go_quiet (fail)
  obtain ⟨z1, z2⟩ := cell_of (C1.out.below (below_drewN' w1 nq)).blk 22 (v := .bool (d.pr 1).votes) rfl
  have H2 := Lib.hid ((C1.out.below (below_drewN' w1 nq)).put (c' := d.setPr 1 { d.pr 1 with votes := true }) (w' := (w1.drewN nq).setCell ⟨p, 22, none⟩ (.bool true)) (by rw [setCell_blk (C1.out.below (below_drewN' w1 nq)).blk]; rfl) (Mod.cellOf p 22 _) rfl rfl rfl)
  go_wp2_with (go_at_call 63; refine (lead_any (H2.out.below (by exact Below.refl _ _)) (ok_votes HOK.out 1 true) (by have := HL.out.1; have e := HO.out.1; show d.out.length ≤ 90; rw [e]; omega) (by have := HL.out.2; have e := HO.out.2.1; show d.dest.length ≤ 90; rw [e]; omega)).mono ?_; rintro e w3 ⟨rfl, hU⟩)
  go_end0
  rw [HV.out]
  exact ⟨rfl, CUpd.below HW.out (CUpd.then ((M1.out.mono (fun _ _ e => Or.inl e)).trans ((Mod.bel (below_drewN' w1 nq)).trans ((Mod.cellOf p 22 _).mono (fun _ _ e => Or.inl e)))) (fun _ hk => .inl hk) hU)⟩
set_option linter.unusedSimpArgs false in
set_option linter.unusedVariables false in
set_option maxHeartbeats 8000000 in
set_option maxRecDepth 100000 in
theorem vote2a {w : World} {base p : Nat} {lv ov tv : Value} {os : List RM} {c : Co} (m : Mg) (ea : Option Addr) (en ec : Nat) (r : Nat → Value) (h : CAt w base p lv ov tv os c) (ok : Ok c) (ht0 : 0 ≤ m.term) (ht1 : m.term ≤ 18446744073709551615) (hl : c.out.length ≤ 80) (hd : c.dest.length ≤ 80) (hr : (c.follow m.term).role ≠ 1) :
    Calls Try.prog 46 #[.pointer (some ⟨p, 0, none⟩), .int .i64 2, .agg #[.int .i64 m.kind, .int .u64 m.term, .int .i64 m.prev, .int .u64 m.pterm, .slice ea en ec, .int .i64 m.commit, .bool m.yes, .int .i64 m.mat, .int .i64 m.stamp, r 0, r 1, r 2, r 3, r 4, r 5, r 6, r 7, r 8, r 9, r 10, r 11, r 12, r 13, r 14, r 15, r 16]] w (Tup0 (CUpd base p lv ov tv (c.vote 2 m) w)) := by
  have mixed : Try.prog.follows .mixedOrders = true := by kernel_rfl
  have HW := Lib.hid (bel1 w (.cells #[.int .i64 m.kind, .int .u64 m.term, .int .i64 m.prev, .int .u64 m.pterm, .slice ea en ec, .int .i64 m.commit, .bool m.yes, .int .i64 m.mat, .int .i64 m.stamp, r 0, r 1, r 2, r 3, r 4, r 5, r 6, r 7, r 8, r 9, r 10, r 11, r 12, r 13, r 14, r 15, r 16] 46))
  have HBL := Lib.hid (heap_alloc_new w (.cells #[.int .i64 m.kind, .int .u64 m.term, .int .i64 m.prev, .int .u64 m.pterm, .slice ea en ec, .int .i64 m.commit, .bool m.yes, .int .i64 m.mat, .int .i64 m.stamp, r 0, r 1, r 2, r 3, r 4, r 5, r 6, r 7, r 8, r 9, r 10, r 11, r 12, r 13, r 14, r 15, r 16] 46))
  have hne : Hid (w.heap.size ≠ p) := by have := h.toCL.lt.1; show w.heap.size ≠ p; omega
  have HF := Lib.hid (follow_any m.term (h.below HW.out))
  have b1 := (cell_of HBL.out 1 (v := .int .u64 m.term) rfl).1
  have HOK := Lib.hid (ok_follow ok ht0 ht1)
  have HO := Lib.hid (follow_out c m.term)
  have HL := Lib.hid (And.intro hl hd)
  have HV := Lib.hid (show c.vote 2 m = c.follow m.term by unfold Co.vote; simp only; rw [if_neg (by exact fun e => hr e.1)])
  have t1 : ((c.follow m.term).role != 1) = true := by simp [hr]
  generalize c.follow m.term = d at *
  clear h ok ht0 ht1 hl hd hr
  go_enter Try.func46, Try.ntmps46
  go_upto_region 2 with (go_at_call 61; refine HF.out.mono ?_; rintro e w1 ⟨rfl, hC, hM⟩; have C1 := Lib.hid hC; have M1 := Lib.hid hM; have hB1 := hM.heap HBL.out hne.out; obtain ⟨k1, k6⟩ := (And.intro (cell_of hB1 1 (v := .int .u64 m.term) rfl).1 (cell_of hB1 6 (v := .bool m.yes) rfl).1); obtain ⟨g1, g5⟩ := (And.intro hC.toCL.cells.1.2.1 hC.toCL.cells.1.2.2.2.2.2.1); clear hC hM hB1)
  go_quiet (fail)
  go_wp2
  go_end0
  rw [HV.out]
  exact ⟨rfl, CUpd.below HW.out (CUpd.then (M1.out.mono (fun _ _ e => Or.inl e)) (fun _ hk => .inl hk) (C1.out.stay (below_drewN' _ _)))⟩
set_option linter.unusedSimpArgs false in
set_option linter.unusedVariables false in
set_option maxHeartbeats 8000000 in
set_option maxRecDepth 100000 in
theorem vote2b {w : World} {base p : Nat} {lv ov tv : Value} {os : List RM} {c : Co} (m : Mg) (ea : Option Addr) (en ec : Nat) (r : Nat → Value) (h : CAt w base p lv ov tv os c) (ok : Ok c) (ht0 : 0 ≤ m.term) (ht1 : m.term ≤ 18446744073709551615) (hl : c.out.length ≤ 80) (hd : c.dest.length ≤ 80) (hr : (c.follow m.term).role = 1) (ht : m.term ≠ (c.follow m.term).term) :
    Calls Try.prog 46 #[.pointer (some ⟨p, 0, none⟩), .int .i64 2, .agg #[.int .i64 m.kind, .int .u64 m.term, .int .i64 m.prev, .int .u64 m.pterm, .slice ea en ec, .int .i64 m.commit, .bool m.yes, .int .i64 m.mat, .int .i64 m.stamp, r 0, r 1, r 2, r 3, r 4, r 5, r 6, r 7, r 8, r 9, r 10, r 11, r 12, r 13, r 14, r 15, r 16]] w (Tup0 (CUpd base p lv ov tv (c.vote 2 m) w)) := by
  have mixed : Try.prog.follows .mixedOrders = true := by kernel_rfl
  have HW := Lib.hid (bel1 w (.cells #[.int .i64 m.kind, .int .u64 m.term, .int .i64 m.prev, .int .u64 m.pterm, .slice ea en ec, .int .i64 m.commit, .bool m.yes, .int .i64 m.mat, .int .i64 m.stamp, r 0, r 1, r 2, r 3, r 4, r 5, r 6, r 7, r 8, r 9, r 10, r 11, r 12, r 13, r 14, r 15, r 16] 46))
  have HBL := Lib.hid (heap_alloc_new w (.cells #[.int .i64 m.kind, .int .u64 m.term, .int .i64 m.prev, .int .u64 m.pterm, .slice ea en ec, .int .i64 m.commit, .bool m.yes, .int .i64 m.mat, .int .i64 m.stamp, r 0, r 1, r 2, r 3, r 4, r 5, r 6, r 7, r 8, r 9, r 10, r 11, r 12, r 13, r 14, r 15, r 16] 46))
  have hne : Hid (w.heap.size ≠ p) := by have := h.toCL.lt.1; show w.heap.size ≠ p; omega
  have HF := Lib.hid (follow_any m.term (h.below HW.out))
  have b1 := (cell_of HBL.out 1 (v := .int .u64 m.term) rfl).1
  have HOK := Lib.hid (ok_follow ok ht0 ht1)
  have HO := Lib.hid (follow_out c m.term)
  have HL := Lib.hid (And.intro hl hd)
  have HV := Lib.hid (show c.vote 2 m = c.follow m.term by unfold Co.vote; simp only; rw [if_neg (by exact fun e => ht e.2.1)])
  have t1 : ((c.follow m.term).role != 1) = false := by simp [hr]
  have t2 : (m.term != (c.follow m.term).term) = true := by simp [ht]
  generalize c.follow m.term = d at *
  clear h ok ht0 ht1 hl hd hr ht
  go_enter Try.func46, Try.ntmps46
  go_upto_region 2 with (go_at_call 61; refine HF.out.mono ?_; rintro e w1 ⟨rfl, hC, hM⟩; have C1 := Lib.hid hC; have M1 := Lib.hid hM; have hB1 := hM.heap HBL.out hne.out; obtain ⟨k1, k6⟩ := (And.intro (cell_of hB1 1 (v := .int .u64 m.term) rfl).1 (cell_of hB1 6 (v := .bool m.yes) rfl).1); obtain ⟨g1, g5⟩ := (And.intro hC.toCL.cells.1.2.1 hC.toCL.cells.1.2.2.2.2.2.1); clear hC hM hB1)
  go_quiet (fail)
  go_wp2
  go_end0
  rw [HV.out]
  exact ⟨rfl, CUpd.below HW.out (CUpd.then (M1.out.mono (fun _ _ e => Or.inl e)) (fun _ hk => .inl hk) (C1.out.stay (below_drewN' _ _)))⟩
set_option linter.unusedSimpArgs false in
set_option linter.unusedVariables false in
set_option maxHeartbeats 8000000 in
set_option maxRecDepth 100000 in
theorem vote2c {w : World} {base p : Nat} {lv ov tv : Value} {os : List RM} {c : Co} (m : Mg) (ea : Option Addr) (en ec : Nat) (r : Nat → Value) (h : CAt w base p lv ov tv os c) (ok : Ok c) (ht0 : 0 ≤ m.term) (ht1 : m.term ≤ 18446744073709551615) (hl : c.out.length ≤ 80) (hd : c.dest.length ≤ 80) (hr : (c.follow m.term).role = 1) (ht : m.term = (c.follow m.term).term) (hy : m.yes = false) :
    Calls Try.prog 46 #[.pointer (some ⟨p, 0, none⟩), .int .i64 2, .agg #[.int .i64 m.kind, .int .u64 m.term, .int .i64 m.prev, .int .u64 m.pterm, .slice ea en ec, .int .i64 m.commit, .bool m.yes, .int .i64 m.mat, .int .i64 m.stamp, r 0, r 1, r 2, r 3, r 4, r 5, r 6, r 7, r 8, r 9, r 10, r 11, r 12, r 13, r 14, r 15, r 16]] w (Tup0 (CUpd base p lv ov tv (c.vote 2 m) w)) := by
  have mixed : Try.prog.follows .mixedOrders = true := by kernel_rfl
  have HW := Lib.hid (bel1 w (.cells #[.int .i64 m.kind, .int .u64 m.term, .int .i64 m.prev, .int .u64 m.pterm, .slice ea en ec, .int .i64 m.commit, .bool m.yes, .int .i64 m.mat, .int .i64 m.stamp, r 0, r 1, r 2, r 3, r 4, r 5, r 6, r 7, r 8, r 9, r 10, r 11, r 12, r 13, r 14, r 15, r 16] 46))
  have HBL := Lib.hid (heap_alloc_new w (.cells #[.int .i64 m.kind, .int .u64 m.term, .int .i64 m.prev, .int .u64 m.pterm, .slice ea en ec, .int .i64 m.commit, .bool m.yes, .int .i64 m.mat, .int .i64 m.stamp, r 0, r 1, r 2, r 3, r 4, r 5, r 6, r 7, r 8, r 9, r 10, r 11, r 12, r 13, r 14, r 15, r 16] 46))
  have hne : Hid (w.heap.size ≠ p) := by have := h.toCL.lt.1; show w.heap.size ≠ p; omega
  have HF := Lib.hid (follow_any m.term (h.below HW.out))
  have b1 := (cell_of HBL.out 1 (v := .int .u64 m.term) rfl).1
  have HOK := Lib.hid (ok_follow ok ht0 ht1)
  have HO := Lib.hid (follow_out c m.term)
  have HL := Lib.hid (And.intro hl hd)
  have HV := Lib.hid (show c.vote 2 m = c.follow m.term by unfold Co.vote; simp only; rw [if_neg (by rw [hy]; simp)])
  have t1 : ((c.follow m.term).role != 1) = false := by simp [hr]
  have t2 : (m.term != (c.follow m.term).term) = false := by rw [← ht]; simp
  have HY := Lib.hid hy
  generalize c.follow m.term = d at *
  clear h ok ht0 ht1 hl hd hr ht hy
  go_enter Try.func46, Try.ntmps46
  go_upto_region 2 with (go_at_call 61; refine HF.out.mono ?_; rintro e w1 ⟨rfl, hC, hM⟩; have C1 := Lib.hid hC; have M1 := Lib.hid hM; have hB1 := hM.heap HBL.out hne.out; obtain ⟨k1, k6⟩ := (And.intro (cell_of hB1 1 (v := .int .u64 m.term) rfl).1 (cell_of hB1 6 (v := .bool m.yes) rfl).1); obtain ⟨g1, g5⟩ := (And.intro hC.toCL.cells.1.2.1 hC.toCL.cells.1.2.2.2.2.2.1); clear hC hM hB1)
  rw [HY.out] at k6
  go_quiet (fail)
  go_wp2
  go_end0
  rw [HV.out]
  exact ⟨rfl, CUpd.below HW.out (CUpd.then (M1.out.mono (fun _ _ e => Or.inl e)) (fun _ hk => .inl hk) (C1.out.stay (below_drewN' _ _)))⟩
set_option linter.unusedSimpArgs false in
set_option linter.unusedVariables false in
set_option maxHeartbeats 8000000 in
set_option maxRecDepth 100000 in
theorem vote2d {w : World} {base p : Nat} {lv ov tv : Value} {os : List RM} {c : Co} (m : Mg) (ea : Option Addr) (en ec : Nat) (r : Nat → Value) (h : CAt w base p lv ov tv os c) (ok : Ok c) (ht0 : 0 ≤ m.term) (ht1 : m.term ≤ 18446744073709551615) (hl : c.out.length ≤ 80) (hd : c.dest.length ≤ 80) (hr : (c.follow m.term).role = 1) (ht : m.term = (c.follow m.term).term) (hy : m.yes = true) :
    Calls Try.prog 46 #[.pointer (some ⟨p, 0, none⟩), .int .i64 2, .agg #[.int .i64 m.kind, .int .u64 m.term, .int .i64 m.prev, .int .u64 m.pterm, .slice ea en ec, .int .i64 m.commit, .bool m.yes, .int .i64 m.mat, .int .i64 m.stamp, r 0, r 1, r 2, r 3, r 4, r 5, r 6, r 7, r 8, r 9, r 10, r 11, r 12, r 13, r 14, r 15, r 16]] w (Tup0 (CUpd base p lv ov tv (c.vote 2 m) w)) := by
  have mixed : Try.prog.follows .mixedOrders = true := by kernel_rfl
  have HW := Lib.hid (bel1 w (.cells #[.int .i64 m.kind, .int .u64 m.term, .int .i64 m.prev, .int .u64 m.pterm, .slice ea en ec, .int .i64 m.commit, .bool m.yes, .int .i64 m.mat, .int .i64 m.stamp, r 0, r 1, r 2, r 3, r 4, r 5, r 6, r 7, r 8, r 9, r 10, r 11, r 12, r 13, r 14, r 15, r 16] 46))
  have HBL := Lib.hid (heap_alloc_new w (.cells #[.int .i64 m.kind, .int .u64 m.term, .int .i64 m.prev, .int .u64 m.pterm, .slice ea en ec, .int .i64 m.commit, .bool m.yes, .int .i64 m.mat, .int .i64 m.stamp, r 0, r 1, r 2, r 3, r 4, r 5, r 6, r 7, r 8, r 9, r 10, r 11, r 12, r 13, r 14, r 15, r 16] 46))
  have hne : Hid (w.heap.size ≠ p) := by have := h.toCL.lt.1; show w.heap.size ≠ p; omega
  have HF := Lib.hid (follow_any m.term (h.below HW.out))
  have b1 := (cell_of HBL.out 1 (v := .int .u64 m.term) rfl).1
  have HOK := Lib.hid (ok_follow ok ht0 ht1)
  have HO := Lib.hid (follow_out c m.term)
  have HL := Lib.hid (And.intro hl hd)
  have HV := Lib.hid (show c.vote 2 m = ((c.follow m.term).setPr 2 { (c.follow m.term).pr 2 with votes := true }).lead by unfold Co.vote; simp only; rw [if_pos ⟨hr, ht, hy⟩])
  have t1 : ((c.follow m.term).role != 1) = false := by simp [hr]
  have t2 : (m.term != (c.follow m.term).term) = false := by rw [← ht]; simp
  generalize c.follow m.term = d at *
  have HY := Lib.hid hy
  clear h ok ht0 ht1 hl hd hr ht hy
  go_enter Try.func46, Try.ntmps46
  go_upto_region 2 with (go_at_call 61; refine HF.out.mono ?_; rintro e w1 ⟨rfl, hC, hM⟩; have C1 := Lib.hid hC; have M1 := Lib.hid hM; have hB1 := hM.heap HBL.out hne.out; obtain ⟨k1, k6⟩ := (And.intro (cell_of hB1 1 (v := .int .u64 m.term) rfl).1 (cell_of hB1 6 (v := .bool m.yes) rfl).1); obtain ⟨g1, g5⟩ := (And.intro hC.toCL.cells.1.2.1 hC.toCL.cells.1.2.2.2.2.2.1); clear hC hM hB1)
  rw [HY.out] at k6
  go_quiet (fail)
  obtain ⟨z1, z2⟩ := cell_of (C1.out.below (below_drewN' w1 nq)).blk 28 (v := .bool (d.pr 2).votes) rfl
  have H2 := Lib.hid ((C1.out.below (below_drewN' w1 nq)).put (c' := d.setPr 2 { d.pr 2 with votes := true }) (w' := (w1.drewN nq).setCell ⟨p, 28, none⟩ (.bool true)) (by rw [setCell_blk (C1.out.below (below_drewN' w1 nq)).blk]; rfl) (Mod.cellOf p 28 _) rfl rfl rfl)
  go_wp2_with (go_at_call 63; refine (lead_any (H2.out.below (by exact Below.refl _ _)) (ok_votes HOK.out 2 true) (by have := HL.out.1; have e := HO.out.1; show d.out.length ≤ 90; rw [e]; omega) (by have := HL.out.2; have e := HO.out.2.1; show d.dest.length ≤ 90; rw [e]; omega)).mono ?_; rintro e w3 ⟨rfl, hU⟩)
  go_end0
  rw [HV.out]
  exact ⟨rfl, CUpd.below HW.out (CUpd.then ((M1.out.mono (fun _ _ e => Or.inl e)).trans ((Mod.bel (below_drewN' w1 nq)).trans ((Mod.cellOf p 28 _).mono (fun _ _ e => Or.inl e)))) (fun _ hk => .inl hk) hU)⟩
theorem vote_any {w : World} {base p : Nat} {lv ov tv : Value} {os : List RM} {c : Co} (m : Mg) (ea : Option Addr) (en ec : Nat) (r : Nat → Value) (v : Nat) (hv : v < 3) (h : CAt w base p lv ov tv os c) (ok : Ok c) (ht0 : 0 ≤ m.term) (ht1 : m.term ≤ 18446744073709551615) (hl : c.out.length ≤ 80) (hd : c.dest.length ≤ 80) :
    Calls Try.prog 46 #[.pointer (some ⟨p, 0, none⟩), .int .i64 (v : Int), .agg #[.int .i64 m.kind, .int .u64 m.term, .int .i64 m.prev, .int .u64 m.pterm, .slice ea en ec, .int .i64 m.commit, .bool m.yes, .int .i64 m.mat, .int .i64 m.stamp, r 0, r 1, r 2, r 3, r 4, r 5, r 6, r 7, r 8, r 9, r 10, r 11, r 12, r 13, r 14, r 15, r 16]] w (Tup0 (CUpd base p lv ov tv (c.vote v m) w)) := by
  by_cases hr : (c.follow m.term).role = 1
  · by_cases ht : m.term = (c.follow m.term).term
    · cases hy : m.yes with
      | true =>
        rw [← hy]
        obtain rfl | rfl | rfl : v = 0 ∨ v = 1 ∨ v = 2 := by omega
        · exact vote0d m ea en ec r h ok ht0 ht1 hl hd hr ht hy
        · exact vote1d m ea en ec r h ok ht0 ht1 hl hd hr ht hy
        · exact vote2d m ea en ec r h ok ht0 ht1 hl hd hr ht hy
      | false =>
        rw [← hy]
        obtain rfl | rfl | rfl : v = 0 ∨ v = 1 ∨ v = 2 := by omega
        · exact vote0c m ea en ec r h ok ht0 ht1 hl hd hr ht hy
        · exact vote1c m ea en ec r h ok ht0 ht1 hl hd hr ht hy
        · exact vote2c m ea en ec r h ok ht0 ht1 hl hd hr ht hy
    · obtain rfl | rfl | rfl : v = 0 ∨ v = 1 ∨ v = 2 := by omega
      · exact vote0b m ea en ec r h ok ht0 ht1 hl hd hr ht
      · exact vote1b m ea en ec r h ok ht0 ht1 hl hd hr ht
      · exact vote2b m ea en ec r h ok ht0 ht1 hl hd hr ht
  · obtain rfl | rfl | rfl : v = 0 ∨ v = 1 ∨ v = 2 := by omega
    · exact vote0a m ea en ec r h ok ht0 ht1 hl hd hr
    · exact vote1a m ea en ec r h ok ht0 ht1 hl hd hr
    · exact vote2a m ea en ec r h ok ht0 ht1 hl hd hr
end Go.Proofs.Ytcleaamjfjnkkaa
