/- A voter that was asked, and does not lead. -/
import Derived.Test.YtcleaamjfjnkkaaCo12
namespace Go.Proofs.Ytcleaamjfjnkkaa
open Go.RowKit Go.Joins

set_option linter.unusedSimpArgs false in
set_option linter.unusedVariables false in
set_option maxHeartbeats 8000000 in
set_option maxRecDepth 100000 in
theorem ask_role_210 {w : World} {base p : Nat} {lv ov tv : Value} {os : List RM} {c : Co} (m : Mg) (ea : Option Addr) (en ec : Nat) (r : Nat → Value) (f draw : Int) (h : CAt w base p lv ov tv os c) (ok : Ok c) (hdr : I64 draw) (ht0 : 0 ≤ m.term) (ht1 : m.term ≤ 18446744073709551615) (hl : c.out.length ≤ 80) (hd : c.dest.length ≤ 80) (hw : waitsS c.heard c.now = false) (hh : decide (c.now < c.until_) = true) (hr : c.role ≠ 2) (he : m.term = (c.follow m.term).term) (h1 : (c.follow m.term).voted ≠ -1) (h2 : (c.follow m.term).voted = f) (hn : newerB m.pterm m.prev (c.follow m.term).log = false)  :
    Calls Try.prog 45 #[.pointer (some ⟨p, 0, none⟩), .int .i64 f, .agg #[.int .i64 m.kind, .int .u64 m.term, .int .i64 m.prev, .int .u64 m.pterm, .slice ea en ec, .int .i64 m.commit, .bool m.yes, .int .i64 m.mat, .int .i64 m.stamp, r 0, r 1, r 2, r 3, r 4, r 5, r 6, r 7, r 8, r 9, r 10, r 11, r 12, r 13, r 14, r 15, r 16], .int .i64 draw] w (Tup0 (CUpd base p lv ov tv (c.ask f m draw) w)) := by
  have mixed : Try.prog.follows .mixedOrders = true := by kernel_rfl
  have HW := Lib.hid (bel1 w (.cells #[.int .i64 m.kind, .int .u64 m.term, .int .i64 m.prev, .int .u64 m.pterm, .slice ea en ec, .int .i64 m.commit, .bool m.yes, .int .i64 m.mat, .int .i64 m.stamp, r 0, r 1, r 2, r 3, r 4, r 5, r 6, r 7, r 8, r 9, r 10, r 11, r 12, r 13, r 14, r 15, r 16] 46))
  have HBL := Lib.hid (heap_alloc_new w (.cells #[.int .i64 m.kind, .int .u64 m.term, .int .i64 m.prev, .int .u64 m.pterm, .slice ea en ec, .int .i64 m.commit, .bool m.yes, .int .i64 m.mat, .int .i64 m.stamp, r 0, r 1, r 2, r 3, r 4, r 5, r 6, r 7, r 8, r 9, r 10, r 11, r 12, r 13, r 14, r 15, r 16] 46))
  have hne : Hid (w.heap.size ≠ p) := by have := h.toCL.lt.1; show w.heap.size ≠ p; omega
  have C0 := Lib.hid (h.below HW.out)
  have HOK := Lib.hid ok
  have HL := Lib.hid (And.intro hl hd)
  have HWT := Lib.hid (fun W => waits_any c.heard c.now W ok.heard.1 ok.heard.2)
  have HHO := Lib.hid (fun W => show Calls Try.prog 51 #[.int .i64 c.until_, .int .i64 c.now] W (SameB (decide (c.now < c.until_)) W) from holds_any c.until_ c.now W)
  have hay : (c.follow m.term).askYes f m = false := by unfold Co.askYes; rw [decide_eq_true he, decide_eq_true h2, hn]; simp
  have HA := Lib.hid (show c.ask f m draw = (c.follow m.term).send f (mg0 2) by unfold Co.ask; simp only; rw [if_neg (by rw [hw, hh, decide_eq_false hr]; simp)]; rw [if_neg (by rw [hay]; simp)])
  rw [hw] at HWT
  rw [hh] at HHO
  have hrb : (c.role == 2) = false := by simp [hr]
  have tq : (m.term == (c.follow m.term).term) = true := by rw [← he]; simp
  have v1 : ((c.follow m.term).voted == -1) = false := by simp [h1]
  have v2 : ((c.follow m.term).voted == f) = true := by simp [h2]
  have HNW := Lib.hid hn
  have HF := Lib.hid (fun W (hC : CAt W base p lv ov tv os c) => follow_any m.term hC)
  have HO := Lib.hid (follow_out c m.term)
  have HTO := Lib.hid (fun W => timeout_any draw W hdr.1 hdr.2)
  obtain ⟨la, lc, hv, -, -⟩ := own_sl h.log
  subst hv
  have HLG := Lib.hid ok.log
  generalize c.follow m.term = d at *
  clear h ok hdr ht0 ht1 hl hd hw hh he h1 hay hr h2 hn
  go_enter Try.func45, Try.ntmps45
  go_upto_region 1 with fail
  generalize w.alloc (.cells #[.int .i64 m.kind, .int .u64 m.term, .int .i64 m.prev, .int .u64 m.pterm, .slice ea en ec, .int .i64 m.commit, .bool m.yes, .int .i64 m.mat, .int .i64 m.stamp, r 0, r 1, r 2, r 3, r 4, r 5, r 6, r 7, r 8, r 9, r 10, r 11, r 12, r 13, r 14, r 15, r 16] 46) = Y at *
  refine wp_region_noPanic ?_
  refine wp_region_lim (AskS p c) (fun i => decide (i < 25)) (fun i => false) (by kernel_rfl) (by kernel_rfl) (C0.out.toCL.below (Below.refl _ _).drew).askS (fun HT hS0 => ?_)
  refine tkD HT 0 10 (v := ?_) ?_ ?_
  rotate_left
  · (intro w5 hSw; obtain ⟨q1, q2, q3⟩ := hSw; go_simp; (try with_reducible rfl))
  try simp only [s1, s2, s3]
  refine tkD HT 1 11 (v := ?_) ?_ ?_
  rotate_left
  · (intro w5 hSw; obtain ⟨q1, q2, q3⟩ := hSw; go_simp; (try with_reducible rfl))
  try simp only [s1, s2, s3]
  refine tkD HT 2 12 (v := ?_) ?_ ?_
  rotate_left
  · (intro w5 hSw; obtain ⟨q1, q2, q3⟩ := hSw; go_simp; (try with_reducible rfl))
  try simp only [s1, s2, s3]
  refine tkD HT 3 13 (v := ?_) ?_ ?_
  rotate_left
  · (intro w5 hSw; obtain ⟨q1, q2, q3⟩ := hSw; go_simp; (try with_reducible rfl))
  try simp only [s1, s2, s3]
  refine tkD HT 4 14 (v := ?_) ?_ ?_
  rotate_left
  · (intro w5 hSw; obtain ⟨q1, q2, q3⟩ := hSw; go_simp; (try with_reducible rfl))
  try simp only [s1, s2, s3]
  refine tkD HT 5 15 (v := ?_) ?_ ?_
  rotate_left
  · (intro w5 hSw; obtain ⟨q1, q2, q3⟩ := hSw; go_simp; (try with_reducible rfl))
  try simp only [s1, s2, s3]
  refine tkD HT 6 16 (v := ?_) ?_ ?_
  rotate_left
  · (intro w5 hSw; obtain ⟨q1, q2, q3⟩ := hSw; go_simp; (try with_reducible rfl))
  try simp only [s1, s2, s3]
  refine tkD HT 7 17 (v := ?_) ?_ ?_
  rotate_left
  · (intro w5 hSw; obtain ⟨q1, q2, q3⟩ := hSw; go_simp; (try with_reducible rfl))
  try simp only [s1, s2, s3]
  refine tkS 8 (fun K5 hK => ?_)
  go_simp
  go_at_call 40
  refine (HWT.out _).mono ?_
  rintro e w6 ⟨rfl, hb6⟩
  have HB6 := Lib.hid (grew_trans (Below.refl _ Y).drew hb6)
  clear hb6
  dsimp only
  refine hK.out _ _ (C0.out.toCL.below HB6.out).askS (fun hS1 => ?_)
  clear hK K5
  try simp only [Act.put, s1, s2, s3]
  refine tkD HT 9 19 (v := ?_) ?_ ?_
  rotate_left
  · (intro w5 hSw; obtain ⟨q1, q2, q3⟩ := hSw; go_simp; (try with_reducible rfl))
  try simp only [s1, s2, s3]
  refine tkD HT 10 20 (v := ?_) ?_ ?_
  rotate_left
  · (intro w5 hSw; obtain ⟨q1, q2, q3⟩ := hSw; go_simp; (try with_reducible rfl))
  try simp only [s1, s2, s3]
  refine tkD HT 12 22 (v := ?_) ?_ ?_
  rotate_left
  · (intro w5 hSw; obtain ⟨q1, q2, q3⟩ := hSw; go_simp; (try with_reducible rfl))
  try simp only [s1, s2, s3]
  refine tkD HT 13 23 (v := ?_) ?_ ?_
  rotate_left
  · (intro w5 hSw; obtain ⟨q1, q2, q3⟩ := hSw; go_simp; (try with_reducible rfl))
  try simp only [s1, s2, s3]
  refine tkD HT 14 24 (v := ?_) ?_ ?_
  rotate_left
  · (intro w5 hSw; obtain ⟨q1, q2, q3⟩ := hSw; go_simp; (try with_reducible rfl))
  try simp only [s1, s2, s3]
  refine tkD HT 15 25 (v := ?_) ?_ ?_
  rotate_left
  · (intro w5 hSw; obtain ⟨q1, q2, q3⟩ := hSw; go_simp; (try with_reducible rfl))
  try simp only [s1, s2, s3]
  refine tkS 11 (fun K5 hK => ?_)
  go_simp
  go_at_call 15
  refine (cuntil_any (C0.out.toCL.below HB6.out) HOK.out.now (fun v hv => (HOK.out.pr v hv).1)).mono ?_
  rintro e w7 ⟨rfl, hb7⟩
  have HB7 := Lib.hid (grew_trans HB6.out hb7)
  clear hb7
  dsimp only
  refine hK.out _ _ (C0.out.toCL.below HB7.out).askS (fun hS1 => ?_)
  clear hK K5
  try simp only [Act.put, s1, s2, s3]
  refine tkS 16 (fun K5 hK => ?_)
  go_simp
  go_at_call 51
  refine (HHO.out _).mono ?_
  rintro e w6 ⟨rfl, rfl⟩
  dsimp only
  refine hK.out _ _ (C0.out.toCL.below HB7.out).askS (fun hS1 => ?_)
  clear hK K5
  try simp only [Act.put, s1, s2, s3]
  refine tkD HT 17 27 (v := ?_) ?_ ?_
  rotate_left
  · (intro w5 hSw; obtain ⟨q1, q2, q3⟩ := hSw; go_simp; (try with_reducible rfl))
  try simp only [s1, s2, s3]
  refine tkD HT 18 28 (v := ?_) ?_ ?_
  rotate_left
  · (intro w5 hSw; obtain ⟨q1, q2, q3⟩ := hSw; go_simp; (try with_reducible rfl))
  try simp only [s1, s2, s3]
  refine tkD HT 19 29 (v := ?_) ?_ ?_
  rotate_left
  · (intro w5 hSw; obtain ⟨q1, q2, q3⟩ := hSw; go_simp; (try with_reducible rfl))
  try simp only [s1, s2, s3]
  refine tkD HT 20 30 (v := ?_) ?_ ?_
  rotate_left
  · (intro w5 hSw; obtain ⟨q1, q2, q3⟩ := hSw; go_simp; (try with_reducible rfl))
  try simp only [s1, s2, s3]
  refine tkD HT 21 31 (v := ?_) ?_ ?_
  rotate_left
  · (intro w5 hSw; obtain ⟨q1, q2, q3⟩ := hSw; go_simp; (try with_reducible rfl))
  try simp only [s1, s2, s3]
  refine tkD HT 22 32 (v := ?_) ?_ ?_
  rotate_left
  · (intro w5 hSw; obtain ⟨q1, q2, q3⟩ := hSw; go_simp; (try with_reducible rfl))
  try simp only [s1, s2, s3]
  refine tkD HT 23 33 (v := ?_) ?_ ?_
  rotate_left
  · (intro w5 hSw; obtain ⟨q1, q2, q3⟩ := hSw; go_simp; (try with_reducible rfl))
  try simp only [s1, s2, s3]
  refine tkD HT 24 34 (v := ?_) ?_ ?_
  rotate_left
  · (intro w5 hSw; obtain ⟨q1, q2, q3⟩ := hSw; go_simp; (try with_reducible rfl))
  try simp only [s1, s2, s3]
  refine wpAnyM_done (by kernel_rfl) (NoPanic.normal ?_)
  have hB7 := blk_below HBL.out HB7.out
  obtain ⟨b1, b2⟩ := (And.intro (cell_of hB7 1 (v := .int .u64 m.term) rfl).1 True.intro)
  have HB77 := Lib.hid hB7
  clear hB7 b2
  go_upto_region 5 with (go_at_call 61; refine (HF.out _ (C0.out.below HB7.out)).mono ?_; rintro e w8 ⟨rfl, hC, hM⟩; have C8 := Lib.hid hC; have M8 := Lib.hid hM; have hB8 := hM.heap HB77.out hne.out; obtain ⟨k1, k2, k3⟩ := (And.intro (cell_of hB8 1 (v := .int .u64 m.term) rfl).1 (And.intro (cell_of hB8 2 (v := .int .i64 m.prev) rfl).1 (cell_of hB8 3 (v := .int .u64 m.pterm) rfl).1)); obtain ⟨g1, g2, g3⟩ := (And.intro hC.toCL.cells.1.2.1 (And.intro hC.toCL.cells.1.2.2.1 hC.toCL.cells.1.2.2.2.1)); clear hC hM hB8 b1)
  have HNC := Lib.hid (fun n => newer_len la lc c.log.length d.log (by rw [HO.out.2.2.1]) m.prev m.pterm (w8.drewN n) (ents_below (Sl.ents (sl_of_own (show OwnE w8 base (.slice la c.log.length lc) d.log from C8.out.log))) (below_drewN' _ _)) (by have := HLG.out; unfold maxLen; omega))
  rw [HNW.out] at HNC
  have HNQ := Lib.hid (fun n => SameB.quiet (HNC.out n))
  go_quiet ((go_at_call 62; exact HNQ.out _))
  have C9 := Lib.hid (C8.out.below (below_drewN' w8 nq))
  have HM9 := Lib.hid (show Mod (CF p (.slice la c.log.length lc) ov tv) w (w8.drewN nq) from (Mod.bel HW.out).trans ((Mod.bel HB7.out).trans ((M8.out.mono (fun _ _ e => Or.inl e)).trans (Mod.bel (below_drewN' w8 nq)))))
  go_wp2_with (go_at_call 57; refine (send_len f ⟨none, 0, mg0 2⟩ 0 rfl C9.out ⟨Sl.nil _, fun _ _ e => by cases e⟩ (by rw [os_len C9.out, HO.out.1]; have := HL.out.1; omega) (by rw [HO.out.2.1]; have := HL.out.2; omega)).mono ?_; rintro e w9 ⟨rfl, hU⟩)
  go_end0
  rw [HA.out]
  exact ⟨rfl, CUpd.then HM9.out (fun _ hk => .inl hk) hU⟩
set_option linter.unusedSimpArgs false in
set_option linter.unusedVariables false in
set_option maxHeartbeats 8000000 in
set_option maxRecDepth 100000 in
theorem ask_role_20None {w : World} {base p : Nat} {lv ov tv : Value} {os : List RM} {c : Co} (m : Mg) (ea : Option Addr) (en ec : Nat) (r : Nat → Value) (f draw : Int) (h : CAt w base p lv ov tv os c) (ok : Ok c) (hdr : I64 draw) (ht0 : 0 ≤ m.term) (ht1 : m.term ≤ 18446744073709551615) (hl : c.out.length ≤ 80) (hd : c.dest.length ≤ 80) (hw : waitsS c.heard c.now = false) (hh : decide (c.now < c.until_) = true) (hr : c.role ≠ 2) (he : m.term ≠ (c.follow m.term).term) (h1 : (c.follow m.term).voted ≠ -1) (h2 : (c.follow m.term).voted = f)  :
    Calls Try.prog 45 #[.pointer (some ⟨p, 0, none⟩), .int .i64 f, .agg #[.int .i64 m.kind, .int .u64 m.term, .int .i64 m.prev, .int .u64 m.pterm, .slice ea en ec, .int .i64 m.commit, .bool m.yes, .int .i64 m.mat, .int .i64 m.stamp, r 0, r 1, r 2, r 3, r 4, r 5, r 6, r 7, r 8, r 9, r 10, r 11, r 12, r 13, r 14, r 15, r 16], .int .i64 draw] w (Tup0 (CUpd base p lv ov tv (c.ask f m draw) w)) := by
  have mixed : Try.prog.follows .mixedOrders = true := by kernel_rfl
  have HW := Lib.hid (bel1 w (.cells #[.int .i64 m.kind, .int .u64 m.term, .int .i64 m.prev, .int .u64 m.pterm, .slice ea en ec, .int .i64 m.commit, .bool m.yes, .int .i64 m.mat, .int .i64 m.stamp, r 0, r 1, r 2, r 3, r 4, r 5, r 6, r 7, r 8, r 9, r 10, r 11, r 12, r 13, r 14, r 15, r 16] 46))
  have HBL := Lib.hid (heap_alloc_new w (.cells #[.int .i64 m.kind, .int .u64 m.term, .int .i64 m.prev, .int .u64 m.pterm, .slice ea en ec, .int .i64 m.commit, .bool m.yes, .int .i64 m.mat, .int .i64 m.stamp, r 0, r 1, r 2, r 3, r 4, r 5, r 6, r 7, r 8, r 9, r 10, r 11, r 12, r 13, r 14, r 15, r 16] 46))
  have hne : Hid (w.heap.size ≠ p) := by have := h.toCL.lt.1; show w.heap.size ≠ p; omega
  have C0 := Lib.hid (h.below HW.out)
  have HOK := Lib.hid ok
  have HL := Lib.hid (And.intro hl hd)
  have HWT := Lib.hid (fun W => waits_any c.heard c.now W ok.heard.1 ok.heard.2)
  have HHO := Lib.hid (fun W => show Calls Try.prog 51 #[.int .i64 c.until_, .int .i64 c.now] W (SameB (decide (c.now < c.until_)) W) from holds_any c.until_ c.now W)
  have hay : (c.follow m.term).askYes f m = false := by unfold Co.askYes; rw [decide_eq_false he]; simp
  have HA := Lib.hid (show c.ask f m draw = (c.follow m.term).send f (mg0 2) by unfold Co.ask; simp only; rw [if_neg (by rw [hw, hh, decide_eq_false hr]; simp)]; rw [if_neg (by rw [hay]; simp)])
  rw [hw] at HWT
  rw [hh] at HHO
  have hrb : (c.role == 2) = false := by simp [hr]
  have tq : (m.term == (c.follow m.term).term) = false := by simp [he]
  have v1 : ((c.follow m.term).voted == -1) = false := by simp [h1]
  have v2 : ((c.follow m.term).voted == f) = true := by simp [h2]
  have HF := Lib.hid (fun W (hC : CAt W base p lv ov tv os c) => follow_any m.term hC)
  have HO := Lib.hid (follow_out c m.term)
  have HTO := Lib.hid (fun W => timeout_any draw W hdr.1 hdr.2)
  obtain ⟨la, lc, hv, -, -⟩ := own_sl h.log
  subst hv
  have HLG := Lib.hid ok.log
  generalize c.follow m.term = d at *
  clear h ok hdr ht0 ht1 hl hd hw hh he h1 hay hr h2
  go_enter Try.func45, Try.ntmps45
  go_upto_region 1 with fail
  generalize w.alloc (.cells #[.int .i64 m.kind, .int .u64 m.term, .int .i64 m.prev, .int .u64 m.pterm, .slice ea en ec, .int .i64 m.commit, .bool m.yes, .int .i64 m.mat, .int .i64 m.stamp, r 0, r 1, r 2, r 3, r 4, r 5, r 6, r 7, r 8, r 9, r 10, r 11, r 12, r 13, r 14, r 15, r 16] 46) = Y at *
  refine wp_region_noPanic ?_
  refine wp_region_lim (AskS p c) (fun i => decide (i < 25)) (fun i => false) (by kernel_rfl) (by kernel_rfl) (C0.out.toCL.below (Below.refl _ _).drew).askS (fun HT hS0 => ?_)
  refine tkD HT 0 10 (v := ?_) ?_ ?_
  rotate_left
  · (intro w5 hSw; obtain ⟨q1, q2, q3⟩ := hSw; go_simp; (try with_reducible rfl))
  try simp only [s1, s2, s3]
  refine tkD HT 1 11 (v := ?_) ?_ ?_
  rotate_left
  · (intro w5 hSw; obtain ⟨q1, q2, q3⟩ := hSw; go_simp; (try with_reducible rfl))
  try simp only [s1, s2, s3]
  refine tkD HT 2 12 (v := ?_) ?_ ?_
  rotate_left
  · (intro w5 hSw; obtain ⟨q1, q2, q3⟩ := hSw; go_simp; (try with_reducible rfl))
  try simp only [s1, s2, s3]
  refine tkD HT 3 13 (v := ?_) ?_ ?_
  rotate_left
  · (intro w5 hSw; obtain ⟨q1, q2, q3⟩ := hSw; go_simp; (try with_reducible rfl))
  try simp only [s1, s2, s3]
  refine tkD HT 4 14 (v := ?_) ?_ ?_
  rotate_left
  · (intro w5 hSw; obtain ⟨q1, q2, q3⟩ := hSw; go_simp; (try with_reducible rfl))
  try simp only [s1, s2, s3]
  refine tkD HT 5 15 (v := ?_) ?_ ?_
  rotate_left
  · (intro w5 hSw; obtain ⟨q1, q2, q3⟩ := hSw; go_simp; (try with_reducible rfl))
  try simp only [s1, s2, s3]
  refine tkD HT 6 16 (v := ?_) ?_ ?_
  rotate_left
  · (intro w5 hSw; obtain ⟨q1, q2, q3⟩ := hSw; go_simp; (try with_reducible rfl))
  try simp only [s1, s2, s3]
  refine tkD HT 7 17 (v := ?_) ?_ ?_
  rotate_left
  · (intro w5 hSw; obtain ⟨q1, q2, q3⟩ := hSw; go_simp; (try with_reducible rfl))
  try simp only [s1, s2, s3]
  refine tkS 8 (fun K5 hK => ?_)
  go_simp
  go_at_call 40
  refine (HWT.out _).mono ?_
  rintro e w6 ⟨rfl, hb6⟩
  have HB6 := Lib.hid (grew_trans (Below.refl _ Y).drew hb6)
  clear hb6
  dsimp only
  refine hK.out _ _ (C0.out.toCL.below HB6.out).askS (fun hS1 => ?_)
  clear hK K5
  try simp only [Act.put, s1, s2, s3]
  refine tkD HT 9 19 (v := ?_) ?_ ?_
  rotate_left
  · (intro w5 hSw; obtain ⟨q1, q2, q3⟩ := hSw; go_simp; (try with_reducible rfl))
  try simp only [s1, s2, s3]
  refine tkD HT 10 20 (v := ?_) ?_ ?_
  rotate_left
  · (intro w5 hSw; obtain ⟨q1, q2, q3⟩ := hSw; go_simp; (try with_reducible rfl))
  try simp only [s1, s2, s3]
  refine tkD HT 12 22 (v := ?_) ?_ ?_
  rotate_left
  · (intro w5 hSw; obtain ⟨q1, q2, q3⟩ := hSw; go_simp; (try with_reducible rfl))
  try simp only [s1, s2, s3]
  refine tkD HT 13 23 (v := ?_) ?_ ?_
  rotate_left
  · (intro w5 hSw; obtain ⟨q1, q2, q3⟩ := hSw; go_simp; (try with_reducible rfl))
  try simp only [s1, s2, s3]
  refine tkD HT 14 24 (v := ?_) ?_ ?_
  rotate_left
  · (intro w5 hSw; obtain ⟨q1, q2, q3⟩ := hSw; go_simp; (try with_reducible rfl))
  try simp only [s1, s2, s3]
  refine tkD HT 15 25 (v := ?_) ?_ ?_
  rotate_left
  · (intro w5 hSw; obtain ⟨q1, q2, q3⟩ := hSw; go_simp; (try with_reducible rfl))
  try simp only [s1, s2, s3]
  refine tkS 11 (fun K5 hK => ?_)
  go_simp
  go_at_call 15
  refine (cuntil_any (C0.out.toCL.below HB6.out) HOK.out.now (fun v hv => (HOK.out.pr v hv).1)).mono ?_
  rintro e w7 ⟨rfl, hb7⟩
  have HB7 := Lib.hid (grew_trans HB6.out hb7)
  clear hb7
  dsimp only
  refine hK.out _ _ (C0.out.toCL.below HB7.out).askS (fun hS1 => ?_)
  clear hK K5
  try simp only [Act.put, s1, s2, s3]
  refine tkS 16 (fun K5 hK => ?_)
  go_simp
  go_at_call 51
  refine (HHO.out _).mono ?_
  rintro e w6 ⟨rfl, rfl⟩
  dsimp only
  refine hK.out _ _ (C0.out.toCL.below HB7.out).askS (fun hS1 => ?_)
  clear hK K5
  try simp only [Act.put, s1, s2, s3]
  refine tkD HT 17 27 (v := ?_) ?_ ?_
  rotate_left
  · (intro w5 hSw; obtain ⟨q1, q2, q3⟩ := hSw; go_simp; (try with_reducible rfl))
  try simp only [s1, s2, s3]
  refine tkD HT 18 28 (v := ?_) ?_ ?_
  rotate_left
  · (intro w5 hSw; obtain ⟨q1, q2, q3⟩ := hSw; go_simp; (try with_reducible rfl))
  try simp only [s1, s2, s3]
  refine tkD HT 19 29 (v := ?_) ?_ ?_
  rotate_left
  · (intro w5 hSw; obtain ⟨q1, q2, q3⟩ := hSw; go_simp; (try with_reducible rfl))
  try simp only [s1, s2, s3]
  refine tkD HT 20 30 (v := ?_) ?_ ?_
  rotate_left
  · (intro w5 hSw; obtain ⟨q1, q2, q3⟩ := hSw; go_simp; (try with_reducible rfl))
  try simp only [s1, s2, s3]
  refine tkD HT 21 31 (v := ?_) ?_ ?_
  rotate_left
  · (intro w5 hSw; obtain ⟨q1, q2, q3⟩ := hSw; go_simp; (try with_reducible rfl))
  try simp only [s1, s2, s3]
  refine tkD HT 22 32 (v := ?_) ?_ ?_
  rotate_left
  · (intro w5 hSw; obtain ⟨q1, q2, q3⟩ := hSw; go_simp; (try with_reducible rfl))
  try simp only [s1, s2, s3]
  refine tkD HT 23 33 (v := ?_) ?_ ?_
  rotate_left
  · (intro w5 hSw; obtain ⟨q1, q2, q3⟩ := hSw; go_simp; (try with_reducible rfl))
  try simp only [s1, s2, s3]
  refine tkD HT 24 34 (v := ?_) ?_ ?_
  rotate_left
  · (intro w5 hSw; obtain ⟨q1, q2, q3⟩ := hSw; go_simp; (try with_reducible rfl))
  try simp only [s1, s2, s3]
  refine wpAnyM_done (by kernel_rfl) (NoPanic.normal ?_)
  have hB7 := blk_below HBL.out HB7.out
  obtain ⟨b1, b2⟩ := (And.intro (cell_of hB7 1 (v := .int .u64 m.term) rfl).1 True.intro)
  have HB77 := Lib.hid hB7
  clear hB7 b2
  go_upto_region 5 with (go_at_call 61; refine (HF.out _ (C0.out.below HB7.out)).mono ?_; rintro e w8 ⟨rfl, hC, hM⟩; have C8 := Lib.hid hC; have M8 := Lib.hid hM; have hB8 := hM.heap HB77.out hne.out; obtain ⟨k1, k2, k3⟩ := (And.intro (cell_of hB8 1 (v := .int .u64 m.term) rfl).1 (And.intro (cell_of hB8 2 (v := .int .i64 m.prev) rfl).1 (cell_of hB8 3 (v := .int .u64 m.pterm) rfl).1)); obtain ⟨g1, g2, g3⟩ := (And.intro hC.toCL.cells.1.2.1 (And.intro hC.toCL.cells.1.2.2.1 hC.toCL.cells.1.2.2.2.1)); clear hC hM hB8 b1)
  go_quiet (fail)
  have C9 := Lib.hid (C8.out.below (below_drewN' w8 nq))
  have HM9 := Lib.hid (show Mod (CF p (.slice la c.log.length lc) ov tv) w (w8.drewN nq) from (Mod.bel HW.out).trans ((Mod.bel HB7.out).trans ((M8.out.mono (fun _ _ e => Or.inl e)).trans (Mod.bel (below_drewN' w8 nq)))))
  go_wp2_with (go_at_call 57; refine (send_len f ⟨none, 0, mg0 2⟩ 0 rfl C9.out ⟨Sl.nil _, fun _ _ e => by cases e⟩ (by rw [os_len C9.out, HO.out.1]; have := HL.out.1; omega) (by rw [HO.out.2.1]; have := HL.out.2; omega)).mono ?_; rintro e w9 ⟨rfl, hU⟩)
  go_end0
  rw [HA.out]
  exact ⟨rfl, CUpd.then HM9.out (fun _ hk => .inl hk) hU⟩
set_option linter.unusedSimpArgs false in
set_option linter.unusedVariables false in
set_option maxHeartbeats 8000000 in
set_option maxRecDepth 100000 in
theorem ask_role_31None {w : World} {base p : Nat} {lv ov tv : Value} {os : List RM} {c : Co} (m : Mg) (ea : Option Addr) (en ec : Nat) (r : Nat → Value) (f draw : Int) (h : CAt w base p lv ov tv os c) (ok : Ok c) (hdr : I64 draw) (ht0 : 0 ≤ m.term) (ht1 : m.term ≤ 18446744073709551615) (hl : c.out.length ≤ 80) (hd : c.dest.length ≤ 80) (hw : waitsS c.heard c.now = false) (hh : decide (c.now < c.until_) = true) (hr : c.role ≠ 2) (he : m.term = (c.follow m.term).term) (h1 : (c.follow m.term).voted ≠ -1) (h2 : (c.follow m.term).voted ≠ f)  :
    Calls Try.prog 45 #[.pointer (some ⟨p, 0, none⟩), .int .i64 f, .agg #[.int .i64 m.kind, .int .u64 m.term, .int .i64 m.prev, .int .u64 m.pterm, .slice ea en ec, .int .i64 m.commit, .bool m.yes, .int .i64 m.mat, .int .i64 m.stamp, r 0, r 1, r 2, r 3, r 4, r 5, r 6, r 7, r 8, r 9, r 10, r 11, r 12, r 13, r 14, r 15, r 16], .int .i64 draw] w (Tup0 (CUpd base p lv ov tv (c.ask f m draw) w)) := by
  have mixed : Try.prog.follows .mixedOrders = true := by kernel_rfl
  have HW := Lib.hid (bel1 w (.cells #[.int .i64 m.kind, .int .u64 m.term, .int .i64 m.prev, .int .u64 m.pterm, .slice ea en ec, .int .i64 m.commit, .bool m.yes, .int .i64 m.mat, .int .i64 m.stamp, r 0, r 1, r 2, r 3, r 4, r 5, r 6, r 7, r 8, r 9, r 10, r 11, r 12, r 13, r 14, r 15, r 16] 46))
  have HBL := Lib.hid (heap_alloc_new w (.cells #[.int .i64 m.kind, .int .u64 m.term, .int .i64 m.prev, .int .u64 m.pterm, .slice ea en ec, .int .i64 m.commit, .bool m.yes, .int .i64 m.mat, .int .i64 m.stamp, r 0, r 1, r 2, r 3, r 4, r 5, r 6, r 7, r 8, r 9, r 10, r 11, r 12, r 13, r 14, r 15, r 16] 46))
  have hne : Hid (w.heap.size ≠ p) := by have := h.toCL.lt.1; show w.heap.size ≠ p; omega
  have C0 := Lib.hid (h.below HW.out)
  have HOK := Lib.hid ok
  have HL := Lib.hid (And.intro hl hd)
  have HWT := Lib.hid (fun W => waits_any c.heard c.now W ok.heard.1 ok.heard.2)
  have HHO := Lib.hid (fun W => show Calls Try.prog 51 #[.int .i64 c.until_, .int .i64 c.now] W (SameB (decide (c.now < c.until_)) W) from holds_any c.until_ c.now W)
  have hay : (c.follow m.term).askYes f m = false := by unfold Co.askYes; rw [decide_eq_true he, decide_eq_false h1, decide_eq_false h2]; simp
  have HA := Lib.hid (show c.ask f m draw = (c.follow m.term).send f (mg0 2) by unfold Co.ask; simp only; rw [if_neg (by rw [hw, hh, decide_eq_false hr]; simp)]; rw [if_neg (by rw [hay]; simp)])
  rw [hw] at HWT
  rw [hh] at HHO
  have hrb : (c.role == 2) = false := by simp [hr]
  have tq : (m.term == (c.follow m.term).term) = true := by rw [← he]; simp
  have v1 : ((c.follow m.term).voted == -1) = false := by simp [h1]
  have v2 : ((c.follow m.term).voted == f) = false := by simp [h2]
  have HF := Lib.hid (fun W (hC : CAt W base p lv ov tv os c) => follow_any m.term hC)
  have HO := Lib.hid (follow_out c m.term)
  have HTO := Lib.hid (fun W => timeout_any draw W hdr.1 hdr.2)
  obtain ⟨la, lc, hv, -, -⟩ := own_sl h.log
  subst hv
  have HLG := Lib.hid ok.log
  generalize c.follow m.term = d at *
  clear h ok hdr ht0 ht1 hl hd hw hh he h1 hay hr h2
  go_enter Try.func45, Try.ntmps45
  go_upto_region 1 with fail
  generalize w.alloc (.cells #[.int .i64 m.kind, .int .u64 m.term, .int .i64 m.prev, .int .u64 m.pterm, .slice ea en ec, .int .i64 m.commit, .bool m.yes, .int .i64 m.mat, .int .i64 m.stamp, r 0, r 1, r 2, r 3, r 4, r 5, r 6, r 7, r 8, r 9, r 10, r 11, r 12, r 13, r 14, r 15, r 16] 46) = Y at *
  refine wp_region_noPanic ?_
  refine wp_region_lim (AskS p c) (fun i => decide (i < 25)) (fun i => false) (by kernel_rfl) (by kernel_rfl) (C0.out.toCL.below (Below.refl _ _).drew).askS (fun HT hS0 => ?_)
  refine tkD HT 0 10 (v := ?_) ?_ ?_
  rotate_left
  · (intro w5 hSw; obtain ⟨q1, q2, q3⟩ := hSw; go_simp; (try with_reducible rfl))
  try simp only [s1, s2, s3]
  refine tkD HT 1 11 (v := ?_) ?_ ?_
  rotate_left
  · (intro w5 hSw; obtain ⟨q1, q2, q3⟩ := hSw; go_simp; (try with_reducible rfl))
  try simp only [s1, s2, s3]
  refine tkD HT 2 12 (v := ?_) ?_ ?_
  rotate_left
  · (intro w5 hSw; obtain ⟨q1, q2, q3⟩ := hSw; go_simp; (try with_reducible rfl))
  try simp only [s1, s2, s3]
  refine tkD HT 3 13 (v := ?_) ?_ ?_
  rotate_left
  · (intro w5 hSw; obtain ⟨q1, q2, q3⟩ := hSw; go_simp; (try with_reducible rfl))
  try simp only [s1, s2, s3]
  refine tkD HT 4 14 (v := ?_) ?_ ?_
  rotate_left
  · (intro w5 hSw; obtain ⟨q1, q2, q3⟩ := hSw; go_simp; (try with_reducible rfl))
  try simp only [s1, s2, s3]
  refine tkD HT 5 15 (v := ?_) ?_ ?_
  rotate_left
  · (intro w5 hSw; obtain ⟨q1, q2, q3⟩ := hSw; go_simp; (try with_reducible rfl))
  try simp only [s1, s2, s3]
  refine tkD HT 6 16 (v := ?_) ?_ ?_
  rotate_left
  · (intro w5 hSw; obtain ⟨q1, q2, q3⟩ := hSw; go_simp; (try with_reducible rfl))
  try simp only [s1, s2, s3]
  refine tkD HT 7 17 (v := ?_) ?_ ?_
  rotate_left
  · (intro w5 hSw; obtain ⟨q1, q2, q3⟩ := hSw; go_simp; (try with_reducible rfl))
  try simp only [s1, s2, s3]
  refine tkS 8 (fun K5 hK => ?_)
  go_simp
  go_at_call 40
  refine (HWT.out _).mono ?_
  rintro e w6 ⟨rfl, hb6⟩
  have HB6 := Lib.hid (grew_trans (Below.refl _ Y).drew hb6)
  clear hb6
  dsimp only
  refine hK.out _ _ (C0.out.toCL.below HB6.out).askS (fun hS1 => ?_)
  clear hK K5
  try simp only [Act.put, s1, s2, s3]
  refine tkD HT 9 19 (v := ?_) ?_ ?_
  rotate_left
  · (intro w5 hSw; obtain ⟨q1, q2, q3⟩ := hSw; go_simp; (try with_reducible rfl))
  try simp only [s1, s2, s3]
  refine tkD HT 10 20 (v := ?_) ?_ ?_
  rotate_left
  · (intro w5 hSw; obtain ⟨q1, q2, q3⟩ := hSw; go_simp; (try with_reducible rfl))
  try simp only [s1, s2, s3]
  refine tkD HT 12 22 (v := ?_) ?_ ?_
  rotate_left
  · (intro w5 hSw; obtain ⟨q1, q2, q3⟩ := hSw; go_simp; (try with_reducible rfl))
  try simp only [s1, s2, s3]
  refine tkD HT 13 23 (v := ?_) ?_ ?_
  rotate_left
  · (intro w5 hSw; obtain ⟨q1, q2, q3⟩ := hSw; go_simp; (try with_reducible rfl))
  try simp only [s1, s2, s3]
  refine tkD HT 14 24 (v := ?_) ?_ ?_
  rotate_left
  · (intro w5 hSw; obtain ⟨q1, q2, q3⟩ := hSw; go_simp; (try with_reducible rfl))
  try simp only [s1, s2, s3]
  refine tkD HT 15 25 (v := ?_) ?_ ?_
  rotate_left
  · (intro w5 hSw; obtain ⟨q1, q2, q3⟩ := hSw; go_simp; (try with_reducible rfl))
  try simp only [s1, s2, s3]
  refine tkS 11 (fun K5 hK => ?_)
  go_simp
  go_at_call 15
  refine (cuntil_any (C0.out.toCL.below HB6.out) HOK.out.now (fun v hv => (HOK.out.pr v hv).1)).mono ?_
  rintro e w7 ⟨rfl, hb7⟩
  have HB7 := Lib.hid (grew_trans HB6.out hb7)
  clear hb7
  dsimp only
  refine hK.out _ _ (C0.out.toCL.below HB7.out).askS (fun hS1 => ?_)
  clear hK K5
  try simp only [Act.put, s1, s2, s3]
  refine tkS 16 (fun K5 hK => ?_)
  go_simp
  go_at_call 51
  refine (HHO.out _).mono ?_
  rintro e w6 ⟨rfl, rfl⟩
  dsimp only
  refine hK.out _ _ (C0.out.toCL.below HB7.out).askS (fun hS1 => ?_)
  clear hK K5
  try simp only [Act.put, s1, s2, s3]
  refine tkD HT 17 27 (v := ?_) ?_ ?_
  rotate_left
  · (intro w5 hSw; obtain ⟨q1, q2, q3⟩ := hSw; go_simp; (try with_reducible rfl))
  try simp only [s1, s2, s3]
  refine tkD HT 18 28 (v := ?_) ?_ ?_
  rotate_left
  · (intro w5 hSw; obtain ⟨q1, q2, q3⟩ := hSw; go_simp; (try with_reducible rfl))
  try simp only [s1, s2, s3]
  refine tkD HT 19 29 (v := ?_) ?_ ?_
  rotate_left
  · (intro w5 hSw; obtain ⟨q1, q2, q3⟩ := hSw; go_simp; (try with_reducible rfl))
  try simp only [s1, s2, s3]
  refine tkD HT 20 30 (v := ?_) ?_ ?_
  rotate_left
  · (intro w5 hSw; obtain ⟨q1, q2, q3⟩ := hSw; go_simp; (try with_reducible rfl))
  try simp only [s1, s2, s3]
  refine tkD HT 21 31 (v := ?_) ?_ ?_
  rotate_left
  · (intro w5 hSw; obtain ⟨q1, q2, q3⟩ := hSw; go_simp; (try with_reducible rfl))
  try simp only [s1, s2, s3]
  refine tkD HT 22 32 (v := ?_) ?_ ?_
  rotate_left
  · (intro w5 hSw; obtain ⟨q1, q2, q3⟩ := hSw; go_simp; (try with_reducible rfl))
  try simp only [s1, s2, s3]
  refine tkD HT 23 33 (v := ?_) ?_ ?_
  rotate_left
  · (intro w5 hSw; obtain ⟨q1, q2, q3⟩ := hSw; go_simp; (try with_reducible rfl))
  try simp only [s1, s2, s3]
  refine tkD HT 24 34 (v := ?_) ?_ ?_
  rotate_left
  · (intro w5 hSw; obtain ⟨q1, q2, q3⟩ := hSw; go_simp; (try with_reducible rfl))
  try simp only [s1, s2, s3]
  refine wpAnyM_done (by kernel_rfl) (NoPanic.normal ?_)
  have hB7 := blk_below HBL.out HB7.out
  obtain ⟨b1, b2⟩ := (And.intro (cell_of hB7 1 (v := .int .u64 m.term) rfl).1 True.intro)
  have HB77 := Lib.hid hB7
  clear hB7 b2
  go_upto_region 5 with (go_at_call 61; refine (HF.out _ (C0.out.below HB7.out)).mono ?_; rintro e w8 ⟨rfl, hC, hM⟩; have C8 := Lib.hid hC; have M8 := Lib.hid hM; have hB8 := hM.heap HB77.out hne.out; obtain ⟨k1, k2, k3⟩ := (And.intro (cell_of hB8 1 (v := .int .u64 m.term) rfl).1 (And.intro (cell_of hB8 2 (v := .int .i64 m.prev) rfl).1 (cell_of hB8 3 (v := .int .u64 m.pterm) rfl).1)); obtain ⟨g1, g2, g3⟩ := (And.intro hC.toCL.cells.1.2.1 (And.intro hC.toCL.cells.1.2.2.1 hC.toCL.cells.1.2.2.2.1)); clear hC hM hB8 b1)
  go_quiet (fail)
  have C9 := Lib.hid (C8.out.below (below_drewN' w8 nq))
  have HM9 := Lib.hid (show Mod (CF p (.slice la c.log.length lc) ov tv) w (w8.drewN nq) from (Mod.bel HW.out).trans ((Mod.bel HB7.out).trans ((M8.out.mono (fun _ _ e => Or.inl e)).trans (Mod.bel (below_drewN' w8 nq)))))
  go_wp2_with (go_at_call 57; refine (send_len f ⟨none, 0, mg0 2⟩ 0 rfl C9.out ⟨Sl.nil _, fun _ _ e => by cases e⟩ (by rw [os_len C9.out, HO.out.1]; have := HL.out.1; omega) (by rw [HO.out.2.1]; have := HL.out.2; omega)).mono ?_; rintro e w9 ⟨rfl, hU⟩)
  go_end0
  rw [HA.out]
  exact ⟨rfl, CUpd.then HM9.out (fun _ hk => .inl hk) hU⟩
set_option linter.unusedSimpArgs false in
set_option linter.unusedVariables false in
set_option maxHeartbeats 8000000 in
set_option maxRecDepth 100000 in
theorem ask_role_30None {w : World} {base p : Nat} {lv ov tv : Value} {os : List RM} {c : Co} (m : Mg) (ea : Option Addr) (en ec : Nat) (r : Nat → Value) (f draw : Int) (h : CAt w base p lv ov tv os c) (ok : Ok c) (hdr : I64 draw) (ht0 : 0 ≤ m.term) (ht1 : m.term ≤ 18446744073709551615) (hl : c.out.length ≤ 80) (hd : c.dest.length ≤ 80) (hw : waitsS c.heard c.now = false) (hh : decide (c.now < c.until_) = true) (hr : c.role ≠ 2) (he : m.term ≠ (c.follow m.term).term) (h1 : (c.follow m.term).voted ≠ -1) (h2 : (c.follow m.term).voted ≠ f)  :
    Calls Try.prog 45 #[.pointer (some ⟨p, 0, none⟩), .int .i64 f, .agg #[.int .i64 m.kind, .int .u64 m.term, .int .i64 m.prev, .int .u64 m.pterm, .slice ea en ec, .int .i64 m.commit, .bool m.yes, .int .i64 m.mat, .int .i64 m.stamp, r 0, r 1, r 2, r 3, r 4, r 5, r 6, r 7, r 8, r 9, r 10, r 11, r 12, r 13, r 14, r 15, r 16], .int .i64 draw] w (Tup0 (CUpd base p lv ov tv (c.ask f m draw) w)) := by
  have mixed : Try.prog.follows .mixedOrders = true := by kernel_rfl
  have HW := Lib.hid (bel1 w (.cells #[.int .i64 m.kind, .int .u64 m.term, .int .i64 m.prev, .int .u64 m.pterm, .slice ea en ec, .int .i64 m.commit, .bool m.yes, .int .i64 m.mat, .int .i64 m.stamp, r 0, r 1, r 2, r 3, r 4, r 5, r 6, r 7, r 8, r 9, r 10, r 11, r 12, r 13, r 14, r 15, r 16] 46))
  have HBL := Lib.hid (heap_alloc_new w (.cells #[.int .i64 m.kind, .int .u64 m.term, .int .i64 m.prev, .int .u64 m.pterm, .slice ea en ec, .int .i64 m.commit, .bool m.yes, .int .i64 m.mat, .int .i64 m.stamp, r 0, r 1, r 2, r 3, r 4, r 5, r 6, r 7, r 8, r 9, r 10, r 11, r 12, r 13, r 14, r 15, r 16] 46))
  have hne : Hid (w.heap.size ≠ p) := by have := h.toCL.lt.1; show w.heap.size ≠ p; omega
  have C0 := Lib.hid (h.below HW.out)
  have HOK := Lib.hid ok
  have HL := Lib.hid (And.intro hl hd)
  have HWT := Lib.hid (fun W => waits_any c.heard c.now W ok.heard.1 ok.heard.2)
  have HHO := Lib.hid (fun W => show Calls Try.prog 51 #[.int .i64 c.until_, .int .i64 c.now] W (SameB (decide (c.now < c.until_)) W) from holds_any c.until_ c.now W)
  have hay : (c.follow m.term).askYes f m = false := by unfold Co.askYes; rw [decide_eq_false he]; simp
  have HA := Lib.hid (show c.ask f m draw = (c.follow m.term).send f (mg0 2) by unfold Co.ask; simp only; rw [if_neg (by rw [hw, hh, decide_eq_false hr]; simp)]; rw [if_neg (by rw [hay]; simp)])
  rw [hw] at HWT
  rw [hh] at HHO
  have hrb : (c.role == 2) = false := by simp [hr]
  have tq : (m.term == (c.follow m.term).term) = false := by simp [he]
  have v1 : ((c.follow m.term).voted == -1) = false := by simp [h1]
  have v2 : ((c.follow m.term).voted == f) = false := by simp [h2]
  have HF := Lib.hid (fun W (hC : CAt W base p lv ov tv os c) => follow_any m.term hC)
  have HO := Lib.hid (follow_out c m.term)
  have HTO := Lib.hid (fun W => timeout_any draw W hdr.1 hdr.2)
  obtain ⟨la, lc, hv, -, -⟩ := own_sl h.log
  subst hv
  have HLG := Lib.hid ok.log
  generalize c.follow m.term = d at *
  clear h ok hdr ht0 ht1 hl hd hw hh he h1 hay hr h2
  go_enter Try.func45, Try.ntmps45
  go_upto_region 1 with fail
  generalize w.alloc (.cells #[.int .i64 m.kind, .int .u64 m.term, .int .i64 m.prev, .int .u64 m.pterm, .slice ea en ec, .int .i64 m.commit, .bool m.yes, .int .i64 m.mat, .int .i64 m.stamp, r 0, r 1, r 2, r 3, r 4, r 5, r 6, r 7, r 8, r 9, r 10, r 11, r 12, r 13, r 14, r 15, r 16] 46) = Y at *
  refine wp_region_noPanic ?_
  refine wp_region_lim (AskS p c) (fun i => decide (i < 25)) (fun i => false) (by kernel_rfl) (by kernel_rfl) (C0.out.toCL.below (Below.refl _ _).drew).askS (fun HT hS0 => ?_)
  refine tkD HT 0 10 (v := ?_) ?_ ?_
  rotate_left
  · (intro w5 hSw; obtain ⟨q1, q2, q3⟩ := hSw; go_simp; (try with_reducible rfl))
  try simp only [s1, s2, s3]
  refine tkD HT 1 11 (v := ?_) ?_ ?_
  rotate_left
  · (intro w5 hSw; obtain ⟨q1, q2, q3⟩ := hSw; go_simp; (try with_reducible rfl))
  try simp only [s1, s2, s3]
  refine tkD HT 2 12 (v := ?_) ?_ ?_
  rotate_left
  · (intro w5 hSw; obtain ⟨q1, q2, q3⟩ := hSw; go_simp; (try with_reducible rfl))
  try simp only [s1, s2, s3]
  refine tkD HT 3 13 (v := ?_) ?_ ?_
  rotate_left
  · (intro w5 hSw; obtain ⟨q1, q2, q3⟩ := hSw; go_simp; (try with_reducible rfl))
  try simp only [s1, s2, s3]
  refine tkD HT 4 14 (v := ?_) ?_ ?_
  rotate_left
  · (intro w5 hSw; obtain ⟨q1, q2, q3⟩ := hSw; go_simp; (try with_reducible rfl))
  try simp only [s1, s2, s3]
  refine tkD HT 5 15 (v := ?_) ?_ ?_
  rotate_left
  · (intro w5 hSw; obtain ⟨q1, q2, q3⟩ := hSw; go_simp; (try with_reducible rfl))
  try simp only [s1, s2, s3]
  refine tkD HT 6 16 (v := ?_) ?_ ?_
  rotate_left
  · (intro w5 hSw; obtain ⟨q1, q2, q3⟩ := hSw; go_simp; (try with_reducible rfl))
  try simp only [s1, s2, s3]
  refine tkD HT 7 17 (v := ?_) ?_ ?_
  rotate_left
  · (intro w5 hSw; obtain ⟨q1, q2, q3⟩ := hSw; go_simp; (try with_reducible rfl))
  try simp only [s1, s2, s3]
  refine tkS 8 (fun K5 hK => ?_)
  go_simp
  go_at_call 40
  refine (HWT.out _).mono ?_
  rintro e w6 ⟨rfl, hb6⟩
  have HB6 := Lib.hid (grew_trans (Below.refl _ Y).drew hb6)
  clear hb6
  dsimp only
  refine hK.out _ _ (C0.out.toCL.below HB6.out).askS (fun hS1 => ?_)
  clear hK K5
  try simp only [Act.put, s1, s2, s3]
  refine tkD HT 9 19 (v := ?_) ?_ ?_
  rotate_left
  · (intro w5 hSw; obtain ⟨q1, q2, q3⟩ := hSw; go_simp; (try with_reducible rfl))
  try simp only [s1, s2, s3]
  refine tkD HT 10 20 (v := ?_) ?_ ?_
  rotate_left
  · (intro w5 hSw; obtain ⟨q1, q2, q3⟩ := hSw; go_simp; (try with_reducible rfl))
  try simp only [s1, s2, s3]
  refine tkD HT 12 22 (v := ?_) ?_ ?_
  rotate_left
  · (intro w5 hSw; obtain ⟨q1, q2, q3⟩ := hSw; go_simp; (try with_reducible rfl))
  try simp only [s1, s2, s3]
  refine tkD HT 13 23 (v := ?_) ?_ ?_
  rotate_left
  · (intro w5 hSw; obtain ⟨q1, q2, q3⟩ := hSw; go_simp; (try with_reducible rfl))
  try simp only [s1, s2, s3]
  refine tkD HT 14 24 (v := ?_) ?_ ?_
  rotate_left
  · (intro w5 hSw; obtain ⟨q1, q2, q3⟩ := hSw; go_simp; (try with_reducible rfl))
  try simp only [s1, s2, s3]
  refine tkD HT 15 25 (v := ?_) ?_ ?_
  rotate_left
  · (intro w5 hSw; obtain ⟨q1, q2, q3⟩ := hSw; go_simp; (try with_reducible rfl))
  try simp only [s1, s2, s3]
  refine tkS 11 (fun K5 hK => ?_)
  go_simp
  go_at_call 15
  refine (cuntil_any (C0.out.toCL.below HB6.out) HOK.out.now (fun v hv => (HOK.out.pr v hv).1)).mono ?_
  rintro e w7 ⟨rfl, hb7⟩
  have HB7 := Lib.hid (grew_trans HB6.out hb7)
  clear hb7
  dsimp only
  refine hK.out _ _ (C0.out.toCL.below HB7.out).askS (fun hS1 => ?_)
  clear hK K5
  try simp only [Act.put, s1, s2, s3]
  refine tkS 16 (fun K5 hK => ?_)
  go_simp
  go_at_call 51
  refine (HHO.out _).mono ?_
  rintro e w6 ⟨rfl, rfl⟩
  dsimp only
  refine hK.out _ _ (C0.out.toCL.below HB7.out).askS (fun hS1 => ?_)
  clear hK K5
  try simp only [Act.put, s1, s2, s3]
  refine tkD HT 17 27 (v := ?_) ?_ ?_
  rotate_left
  · (intro w5 hSw; obtain ⟨q1, q2, q3⟩ := hSw; go_simp; (try with_reducible rfl))
  try simp only [s1, s2, s3]
  refine tkD HT 18 28 (v := ?_) ?_ ?_
  rotate_left
  · (intro w5 hSw; obtain ⟨q1, q2, q3⟩ := hSw; go_simp; (try with_reducible rfl))
  try simp only [s1, s2, s3]
  refine tkD HT 19 29 (v := ?_) ?_ ?_
  rotate_left
  · (intro w5 hSw; obtain ⟨q1, q2, q3⟩ := hSw; go_simp; (try with_reducible rfl))
  try simp only [s1, s2, s3]
  refine tkD HT 20 30 (v := ?_) ?_ ?_
  rotate_left
  · (intro w5 hSw; obtain ⟨q1, q2, q3⟩ := hSw; go_simp; (try with_reducible rfl))
  try simp only [s1, s2, s3]
  refine tkD HT 21 31 (v := ?_) ?_ ?_
  rotate_left
  · (intro w5 hSw; obtain ⟨q1, q2, q3⟩ := hSw; go_simp; (try with_reducible rfl))
  try simp only [s1, s2, s3]
  refine tkD HT 22 32 (v := ?_) ?_ ?_
  rotate_left
  · (intro w5 hSw; obtain ⟨q1, q2, q3⟩ := hSw; go_simp; (try with_reducible rfl))
  try simp only [s1, s2, s3]
  refine tkD HT 23 33 (v := ?_) ?_ ?_
  rotate_left
  · (intro w5 hSw; obtain ⟨q1, q2, q3⟩ := hSw; go_simp; (try with_reducible rfl))
  try simp only [s1, s2, s3]
  refine tkD HT 24 34 (v := ?_) ?_ ?_
  rotate_left
  · (intro w5 hSw; obtain ⟨q1, q2, q3⟩ := hSw; go_simp; (try with_reducible rfl))
  try simp only [s1, s2, s3]
  refine wpAnyM_done (by kernel_rfl) (NoPanic.normal ?_)
  have hB7 := blk_below HBL.out HB7.out
  obtain ⟨b1, b2⟩ := (And.intro (cell_of hB7 1 (v := .int .u64 m.term) rfl).1 True.intro)
  have HB77 := Lib.hid hB7
  clear hB7 b2
  go_upto_region 5 with (go_at_call 61; refine (HF.out _ (C0.out.below HB7.out)).mono ?_; rintro e w8 ⟨rfl, hC, hM⟩; have C8 := Lib.hid hC; have M8 := Lib.hid hM; have hB8 := hM.heap HB77.out hne.out; obtain ⟨k1, k2, k3⟩ := (And.intro (cell_of hB8 1 (v := .int .u64 m.term) rfl).1 (And.intro (cell_of hB8 2 (v := .int .i64 m.prev) rfl).1 (cell_of hB8 3 (v := .int .u64 m.pterm) rfl).1)); obtain ⟨g1, g2, g3⟩ := (And.intro hC.toCL.cells.1.2.1 (And.intro hC.toCL.cells.1.2.2.1 hC.toCL.cells.1.2.2.2.1)); clear hC hM hB8 b1)
  go_quiet (fail)
  have C9 := Lib.hid (C8.out.below (below_drewN' w8 nq))
  have HM9 := Lib.hid (show Mod (CF p (.slice la c.log.length lc) ov tv) w (w8.drewN nq) from (Mod.bel HW.out).trans ((Mod.bel HB7.out).trans ((M8.out.mono (fun _ _ e => Or.inl e)).trans (Mod.bel (below_drewN' w8 nq)))))
  go_wp2_with (go_at_call 57; refine (send_len f ⟨none, 0, mg0 2⟩ 0 rfl C9.out ⟨Sl.nil _, fun _ _ e => by cases e⟩ (by rw [os_len C9.out, HO.out.1]; have := HL.out.1; omega) (by rw [HO.out.2.1]; have := HL.out.2; omega)).mono ?_; rintro e w9 ⟨rfl, hU⟩)
  go_end0
  rw [HA.out]
  exact ⟨rfl, CUpd.then HM9.out (fun _ hk => .inl hk) hU⟩
end Go.Proofs.Ytcleaamjfjnkkaa
