/- Who is asked for a vote. -/
import Derived.Test.YtcleaamjfjnkkaaCo11
namespace Go.Proofs.Ytcleaamjfjnkkaa
open Go.RowKit Go.Joins

def AskS (p : Nat) (c : Co) (w' : World) : Prop := w'.cell? ⟨p, 5, none⟩ = some (.int .i64 c.role) ∧ w'.cell? ⟨p, 7, none⟩ = some (.int .i64 c.heard) ∧ w'.cell? ⟨p, 10, none⟩ = some (.int .i64 c.now)
theorem CL.askS {w : World} {base p : Nat} {lv ov tv : Value} {c : Co} (h : CL w base p lv ov tv c) : AskS p c w := ⟨h.cells.1.2.2.2.2.2.1, h.cells.1.2.2.2.2.2.2.2.1, h.cells.1.2.2.2.2.2.2.2.2.2.2.1⟩
theorem newer_len (a : Option Addr) (cap n : Nat) (es : List Ent) (hn : es.length = n) (k term : Int) (w : World) (hE : Ents w a es) (hlen : n ≤ maxLen) : Calls Try.prog 62 #[.int .u64 term, .int .i64 k, .slice a n cap] w (SameB (newerB term k es) w) := by subst hn; exact newer_any a cap es k term w hE hlen
set_option linter.unusedSimpArgs false in
set_option linter.unusedVariables false in
set_option maxHeartbeats 8000000 in
set_option maxRecDepth 100000 in
theorem ask_waits {w : World} {base p : Nat} {lv ov tv : Value} {os : List RM} {c : Co} (m : Mg) (ea : Option Addr) (en ec : Nat) (r : Nat → Value) (f draw : Int) (h : CAt w base p lv ov tv os c) (ok : Ok c) (hdr : I64 draw) (ht0 : 0 ≤ m.term) (ht1 : m.term ≤ 18446744073709551615) (hl : c.out.length ≤ 80) (hd : c.dest.length ≤ 80) (hw : waitsS c.heard c.now = true) :
    Calls Try.prog 45 #[.pointer (some ⟨p, 0, none⟩), .int .i64 f, .agg #[.int .i64 m.kind, .int .u64 m.term, .int .i64 m.prev, .int .u64 m.pterm, .slice ea en ec, .int .i64 m.commit, .bool m.yes, .int .i64 m.mat, .int .i64 m.stamp, r 0, r 1, r 2, r 3, r 4, r 5, r 6, r 7, r 8, r 9, r 10, r 11, r 12, r 13, r 14, r 15, r 16], .int .i64 draw] w (Tup0 (CUpd base p lv ov tv (c.ask f m draw) w)) := by
  have mixed : Try.prog.follows .mixedOrders = true := by kernel_rfl
  have HW := Lib.hid (bel1 w (.cells #[.int .i64 m.kind, .int .u64 m.term, .int .i64 m.prev, .int .u64 m.pterm, .slice ea en ec, .int .i64 m.commit, .bool m.yes, .int .i64 m.mat, .int .i64 m.stamp, r 0, r 1, r 2, r 3, r 4, r 5, r 6, r 7, r 8, r 9, r 10, r 11, r 12, r 13, r 14, r 15, r 16] 46))
  have HBL := Lib.hid (heap_alloc_new w (.cells #[.int .i64 m.kind, .int .u64 m.term, .int .i64 m.prev, .int .u64 m.pterm, .slice ea en ec, .int .i64 m.commit, .bool m.yes, .int .i64 m.mat, .int .i64 m.stamp, r 0, r 1, r 2, r 3, r 4, r 5, r 6, r 7, r 8, r 9, r 10, r 11, r 12, r 13, r 14, r 15, r 16] 46))
  have hne : Hid (w.heap.size ≠ p) := by have := h.toCL.lt.1; show w.heap.size ≠ p; omega
  have C0 := Lib.hid (h.below HW.out)
  have HOK := Lib.hid ok
  have HL := Lib.hid (And.intro hl hd)
  have HWT := Lib.hid (fun W => waits_any c.heard c.now W ok.heard.1 ok.heard.2)
  have HHO := Lib.hid (fun W => show Calls Try.prog 51 #[.int .i64 c.until_, .int .i64 c.now] W (SameB (decide (c.now < c.until_)) W) from holds_any c.until_ c.now W)
  have HA := Lib.hid (show c.ask f m draw = c.send f (mg0 2) by unfold Co.ask; rw [hw]; rfl)
  rw [hw] at HWT
  clear h ok hdr ht0 ht1 hl hd hw
  go_enter Try.func45, Try.ntmps45
  go_upto_region 1 with fail
  generalize w.alloc (.cells #[.int .i64 m.kind, .int .u64 m.term, .int .i64 m.prev, .int .u64 m.pterm, .slice ea en ec, .int .i64 m.commit, .bool m.yes, .int .i64 m.mat, .int .i64 m.stamp, r 0, r 1, r 2, r 3, r 4, r 5, r 6, r 7, r 8, r 9, r 10, r 11, r 12, r 13, r 14, r 15, r 16] 46) = Y at *
  refine wp_region_noPanic ?_
  refine wp_region_lim (AskS p c) (fun i => decide (i < 25)) (fun i => false) (by kernel_rfl) (by kernel_rfl) (C0.out.toCL.below (Below.refl _ _).drew).askS (fun HT hS0 => ?_)
  refine tkD HT 0 10 (v := ?_) ?_ ?_
  rotate_left
  · (intro w5 hSw; obtain ⟨q1, q2, q3⟩ := hSw; go_simp; (try with_reducible rfl))
  try simp only [s1, s2, s3]
  refine tkD HT 1 11 (v := ?_) ?_ ?_
  rotate_left
  · (intro w5 hSw; obtain ⟨q1, q2, q3⟩ := hSw; go_simp; (try with_reducible rfl))
  try simp only [s1, s2, s3]
  refine tkD HT 2 12 (v := ?_) ?_ ?_
  rotate_left
  · (intro w5 hSw; obtain ⟨q1, q2, q3⟩ := hSw; go_simp; (try with_reducible rfl))
  try simp only [s1, s2, s3]
  refine tkD HT 3 13 (v := ?_) ?_ ?_
  rotate_left
  · (intro w5 hSw; obtain ⟨q1, q2, q3⟩ := hSw; go_simp; (try with_reducible rfl))
  try simp only [s1, s2, s3]
  refine tkD HT 4 14 (v := ?_) ?_ ?_
  rotate_left
  · (intro w5 hSw; obtain ⟨q1, q2, q3⟩ := hSw; go_simp; (try with_reducible rfl))
  try simp only [s1, s2, s3]
  refine tkD HT 5 15 (v := ?_) ?_ ?_
  rotate_left
  · (intro w5 hSw; obtain ⟨q1, q2, q3⟩ := hSw; go_simp; (try with_reducible rfl))
  try simp only [s1, s2, s3]
  refine tkD HT 6 16 (v := ?_) ?_ ?_
  rotate_left
  · (intro w5 hSw; obtain ⟨q1, q2, q3⟩ := hSw; go_simp; (try with_reducible rfl))
  try simp only [s1, s2, s3]
  refine tkD HT 7 17 (v := ?_) ?_ ?_
  rotate_left
  · (intro w5 hSw; obtain ⟨q1, q2, q3⟩ := hSw; go_simp; (try with_reducible rfl))
  try simp only [s1, s2, s3]
  refine tkS 8 (fun K5 hK => ?_)
  go_simp
  go_at_call 40
  refine (HWT.out _).mono ?_
  rintro e w6 ⟨rfl, hb6⟩
  have HB6 := Lib.hid (grew_trans (Below.refl _ Y).drew hb6)
  clear hb6
  dsimp only
  refine hK.out _ _ (C0.out.toCL.below HB6.out).askS (fun hS1 => ?_)
  clear hK K5
  try simp only [Act.put, s1, s2, s3]
  refine tkD HT 9 19 (v := ?_) ?_ ?_
  rotate_left
  · (intro w5 hSw; obtain ⟨q1, q2, q3⟩ := hSw; go_simp; (try with_reducible rfl))
  try simp only [s1, s2, s3]
  refine tkN HT 10 20 ?_
  try simp only [s1, s2, s3]
  refine tkN HT 12 22 ?_
  try simp only [s1, s2, s3]
  refine tkN HT 13 23 ?_
  try simp only [s1, s2, s3]
  refine tkN HT 14 24 ?_
  try simp only [s1, s2, s3]
  refine tkN HT 15 25 ?_
  try simp only [s1, s2, s3]
  refine tkS 11 (fun K5 hK => ?_)
  go_simp
  refine hK.out _ _ (C0.out.toCL.below HB6.out).askS (fun hS1 => ?_)
  clear hK K5
  try simp only [Act.put, s1, s2, s3]
  refine tkS 16 (fun K5 hK => ?_)
  go_simp
  refine hK.out _ _ (C0.out.toCL.below HB6.out).askS (fun hS1 => ?_)
  clear hK K5
  try simp only [Act.put, s1, s2, s3]
  refine tkN HT 17 27 ?_
  try simp only [s1, s2, s3]
  refine tkN HT 18 28 ?_
  try simp only [s1, s2, s3]
  refine tkN HT 19 29 ?_
  try simp only [s1, s2, s3]
  refine tkN HT 20 30 ?_
  try simp only [s1, s2, s3]
  refine tkN HT 21 31 ?_
  try simp only [s1, s2, s3]
  refine tkN HT 22 32 ?_
  try simp only [s1, s2, s3]
  refine tkN HT 23 33 ?_
  try simp only [s1, s2, s3]
  refine tkD HT 24 34 (v := ?_) ?_ ?_
  rotate_left
  · (intro w5 hSw; obtain ⟨q1, q2, q3⟩ := hSw; go_simp; (try with_reducible rfl))
  try simp only [s1, s2, s3]
  refine wpAnyM_done (by kernel_rfl) (NoPanic.normal ?_)
  have HB7 := HB6
  obtain ⟨w7, hw7⟩ : ∃ w7, w7 = w6 := ⟨_, rfl⟩
  subst hw7
  go_wp2_with (go_at_call 57; refine (send_len f ⟨none, 0, mg0 2⟩ 0 rfl (C0.out.below HB7.out) ⟨Sl.nil _, fun _ _ e => by cases e⟩ (by rw [os_len C0.out]; have := HL.out.1; omega) (by have := HL.out.2; omega)).mono ?_; rintro e w9 ⟨rfl, hU⟩)
  go_end0
  rw [HA.out]
  exact ⟨rfl, CUpd.below HW.out (CUpd.below HB7.out hU)⟩
set_option linter.unusedSimpArgs false in
set_option linter.unusedVariables false in
set_option maxHeartbeats 8000000 in
set_option maxRecDepth 100000 in
theorem ask_holds {w : World} {base p : Nat} {lv ov tv : Value} {os : List RM} {c : Co} (m : Mg) (ea : Option Addr) (en ec : Nat) (r : Nat → Value) (f draw : Int) (h : CAt w base p lv ov tv os c) (ok : Ok c) (hdr : I64 draw) (ht0 : 0 ≤ m.term) (ht1 : m.term ≤ 18446744073709551615) (hl : c.out.length ≤ 80) (hd : c.dest.length ≤ 80) (hw : waitsS c.heard c.now = false) (hh : decide (c.now < c.until_) = true) (hr : c.role = 2) :
    Calls Try.prog 45 #[.pointer (some ⟨p, 0, none⟩), .int .i64 f, .agg #[.int .i64 m.kind, .int .u64 m.term, .int .i64 m.prev, .int .u64 m.pterm, .slice ea en ec, .int .i64 m.commit, .bool m.yes, .int .i64 m.mat, .int .i64 m.stamp, r 0, r 1, r 2, r 3, r 4, r 5, r 6, r 7, r 8, r 9, r 10, r 11, r 12, r 13, r 14, r 15, r 16], .int .i64 draw] w (Tup0 (CUpd base p lv ov tv (c.ask f m draw) w)) := by
  have mixed : Try.prog.follows .mixedOrders = true := by kernel_rfl
  have HW := Lib.hid (bel1 w (.cells #[.int .i64 m.kind, .int .u64 m.term, .int .i64 m.prev, .int .u64 m.pterm, .slice ea en ec, .int .i64 m.commit, .bool m.yes, .int .i64 m.mat, .int .i64 m.stamp, r 0, r 1, r 2, r 3, r 4, r 5, r 6, r 7, r 8, r 9, r 10, r 11, r 12, r 13, r 14, r 15, r 16] 46))
  have HBL := Lib.hid (heap_alloc_new w (.cells #[.int .i64 m.kind, .int .u64 m.term, .int .i64 m.prev, .int .u64 m.pterm, .slice ea en ec, .int .i64 m.commit, .bool m.yes, .int .i64 m.mat, .int .i64 m.stamp, r 0, r 1, r 2, r 3, r 4, r 5, r 6, r 7, r 8, r 9, r 10, r 11, r 12, r 13, r 14, r 15, r 16] 46))
  have hne : Hid (w.heap.size ≠ p) := by have := h.toCL.lt.1; show w.heap.size ≠ p; omega
  have C0 := Lib.hid (h.below HW.out)
  have HOK := Lib.hid ok
  have HL := Lib.hid (And.intro hl hd)
  have HWT := Lib.hid (fun W => waits_any c.heard c.now W ok.heard.1 ok.heard.2)
  have HHO := Lib.hid (fun W => show Calls Try.prog 51 #[.int .i64 c.until_, .int .i64 c.now] W (SameB (decide (c.now < c.until_)) W) from holds_any c.until_ c.now W)
  have HA := Lib.hid (show c.ask f m draw = c.send f (mg0 2) by unfold Co.ask; rw [hw, hh, decide_eq_true hr]; rfl)
  rw [hw] at HWT
  rw [hh] at HHO
  have hrb : (c.role == 2) = true := by simp [hr]
  clear h ok hdr ht0 ht1 hl hd hw hh hr
  go_enter Try.func45, Try.ntmps45
  go_upto_region 1 with fail
  generalize w.alloc (.cells #[.int .i64 m.kind, .int .u64 m.term, .int .i64 m.prev, .int .u64 m.pterm, .slice ea en ec, .int .i64 m.commit, .bool m.yes, .int .i64 m.mat, .int .i64 m.stamp, r 0, r 1, r 2, r 3, r 4, r 5, r 6, r 7, r 8, r 9, r 10, r 11, r 12, r 13, r 14, r 15, r 16] 46) = Y at *
  refine wp_region_noPanic ?_
  refine wp_region_lim (AskS p c) (fun i => decide (i < 25)) (fun i => false) (by kernel_rfl) (by kernel_rfl) (C0.out.toCL.below (Below.refl _ _).drew).askS (fun HT hS0 => ?_)
  refine tkD HT 0 10 (v := ?_) ?_ ?_
  rotate_left
  · (intro w5 hSw; obtain ⟨q1, q2, q3⟩ := hSw; go_simp; (try with_reducible rfl))
  try simp only [s1, s2, s3]
  refine tkD HT 1 11 (v := ?_) ?_ ?_
  rotate_left
  · (intro w5 hSw; obtain ⟨q1, q2, q3⟩ := hSw; go_simp; (try with_reducible rfl))
  try simp only [s1, s2, s3]
  refine tkD HT 2 12 (v := ?_) ?_ ?_
  rotate_left
  · (intro w5 hSw; obtain ⟨q1, q2, q3⟩ := hSw; go_simp; (try with_reducible rfl))
  try simp only [s1, s2, s3]
  refine tkD HT 3 13 (v := ?_) ?_ ?_
  rotate_left
  · (intro w5 hSw; obtain ⟨q1, q2, q3⟩ := hSw; go_simp; (try with_reducible rfl))
  try simp only [s1, s2, s3]
  refine tkD HT 4 14 (v := ?_) ?_ ?_
  rotate_left
  · (intro w5 hSw; obtain ⟨q1, q2, q3⟩ := hSw; go_simp; (try with_reducible rfl))
  try simp only [s1, s2, s3]
  refine tkD HT 5 15 (v := ?_) ?_ ?_
  rotate_left
  · (intro w5 hSw; obtain ⟨q1, q2, q3⟩ := hSw; go_simp; (try with_reducible rfl))
  try simp only [s1, s2, s3]
  refine tkD HT 6 16 (v := ?_) ?_ ?_
  rotate_left
  · (intro w5 hSw; obtain ⟨q1, q2, q3⟩ := hSw; go_simp; (try with_reducible rfl))
  try simp only [s1, s2, s3]
  refine tkD HT 7 17 (v := ?_) ?_ ?_
  rotate_left
  · (intro w5 hSw; obtain ⟨q1, q2, q3⟩ := hSw; go_simp; (try with_reducible rfl))
  try simp only [s1, s2, s3]
  refine tkS 8 (fun K5 hK => ?_)
  go_simp
  go_at_call 40
  refine (HWT.out _).mono ?_
  rintro e w6 ⟨rfl, hb6⟩
  have HB6 := Lib.hid (grew_trans (Below.refl _ Y).drew hb6)
  clear hb6
  dsimp only
  refine hK.out _ _ (C0.out.toCL.below HB6.out).askS (fun hS1 => ?_)
  clear hK K5
  try simp only [Act.put, s1, s2, s3]
  refine tkD HT 9 19 (v := ?_) ?_ ?_
  rotate_left
  · (intro w5 hSw; obtain ⟨q1, q2, q3⟩ := hSw; go_simp; (try with_reducible rfl))
  try simp only [s1, s2, s3]
  refine tkD HT 10 20 (v := ?_) ?_ ?_
  rotate_left
  · (intro w5 hSw; obtain ⟨q1, q2, q3⟩ := hSw; go_simp; (try with_reducible rfl))
  try simp only [s1, s2, s3]
  refine tkD HT 12 22 (v := ?_) ?_ ?_
  rotate_left
  · (intro w5 hSw; obtain ⟨q1, q2, q3⟩ := hSw; go_simp; (try with_reducible rfl))
  try simp only [s1, s2, s3]
  refine tkD HT 13 23 (v := ?_) ?_ ?_
  rotate_left
  · (intro w5 hSw; obtain ⟨q1, q2, q3⟩ := hSw; go_simp; (try with_reducible rfl))
  try simp only [s1, s2, s3]
  refine tkD HT 14 24 (v := ?_) ?_ ?_
  rotate_left
  · (intro w5 hSw; obtain ⟨q1, q2, q3⟩ := hSw; go_simp; (try with_reducible rfl))
  try simp only [s1, s2, s3]
  refine tkD HT 15 25 (v := ?_) ?_ ?_
  rotate_left
  · (intro w5 hSw; obtain ⟨q1, q2, q3⟩ := hSw; go_simp; (try with_reducible rfl))
  try simp only [s1, s2, s3]
  refine tkS 11 (fun K5 hK => ?_)
  go_simp
  go_at_call 15
  refine (cuntil_any (C0.out.toCL.below HB6.out) HOK.out.now (fun v hv => (HOK.out.pr v hv).1)).mono ?_
  rintro e w7 ⟨rfl, hb7⟩
  have HB7 := Lib.hid (grew_trans HB6.out hb7)
  clear hb7
  dsimp only
  refine hK.out _ _ (C0.out.toCL.below HB7.out).askS (fun hS1 => ?_)
  clear hK K5
  try simp only [Act.put, s1, s2, s3]
  refine tkS 16 (fun K5 hK => ?_)
  go_simp
  go_at_call 51
  refine (HHO.out _).mono ?_
  rintro e w6 ⟨rfl, rfl⟩
  dsimp only
  refine hK.out _ _ (C0.out.toCL.below HB7.out).askS (fun hS1 => ?_)
  clear hK K5
  try simp only [Act.put, s1, s2, s3]
  refine tkD HT 17 27 (v := ?_) ?_ ?_
  rotate_left
  · (intro w5 hSw; obtain ⟨q1, q2, q3⟩ := hSw; go_simp; (try with_reducible rfl))
  try simp only [s1, s2, s3]
  refine tkD HT 18 28 (v := ?_) ?_ ?_
  rotate_left
  · (intro w5 hSw; obtain ⟨q1, q2, q3⟩ := hSw; go_simp; (try with_reducible rfl))
  try simp only [s1, s2, s3]
  refine tkD HT 19 29 (v := ?_) ?_ ?_
  rotate_left
  · (intro w5 hSw; obtain ⟨q1, q2, q3⟩ := hSw; go_simp; (try with_reducible rfl))
  try simp only [s1, s2, s3]
  refine tkD HT 20 30 (v := ?_) ?_ ?_
  rotate_left
  · (intro w5 hSw; obtain ⟨q1, q2, q3⟩ := hSw; go_simp; (try with_reducible rfl))
  try simp only [s1, s2, s3]
  refine tkD HT 21 31 (v := ?_) ?_ ?_
  rotate_left
  · (intro w5 hSw; obtain ⟨q1, q2, q3⟩ := hSw; go_simp; (try with_reducible rfl))
  try simp only [s1, s2, s3]
  refine tkD HT 22 32 (v := ?_) ?_ ?_
  rotate_left
  · (intro w5 hSw; obtain ⟨q1, q2, q3⟩ := hSw; go_simp; (try with_reducible rfl))
  try simp only [s1, s2, s3]
  refine tkD HT 23 33 (v := ?_) ?_ ?_
  rotate_left
  · (intro w5 hSw; obtain ⟨q1, q2, q3⟩ := hSw; go_simp; (try with_reducible rfl))
  try simp only [s1, s2, s3]
  refine tkD HT 24 34 (v := ?_) ?_ ?_
  rotate_left
  · (intro w5 hSw; obtain ⟨q1, q2, q3⟩ := hSw; go_simp; (try with_reducible rfl))
  try simp only [s1, s2, s3]
  refine wpAnyM_done (by kernel_rfl) (NoPanic.normal ?_)
  go_wp2_with (go_at_call 57; refine (send_len f ⟨none, 0, mg0 2⟩ 0 rfl (C0.out.below HB7.out) ⟨Sl.nil _, fun _ _ e => by cases e⟩ (by rw [os_len C0.out]; have := HL.out.1; omega) (by have := HL.out.2; omega)).mono ?_; rintro e w9 ⟨rfl, hU⟩)
  go_end0
  rw [HA.out]
  exact ⟨rfl, CUpd.below HW.out (CUpd.below HB7.out hU)⟩
end Go.Proofs.Ytcleaamjfjnkkaa
