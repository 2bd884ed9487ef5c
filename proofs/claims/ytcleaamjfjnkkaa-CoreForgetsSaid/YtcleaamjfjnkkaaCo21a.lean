/- What another voter answered: the voter 0. -/
import Derived.Test.YtcleaamjfjnkkaaCo20
namespace Go.Proofs.Ytcleaamjfjnkkaa
open Go.RowKit Go.Joins

set_option linter.unusedSimpArgs false in
set_option linter.unusedVariables false in
set_option maxHeartbeats 8000000 in
set_option maxRecDepth 100000 in
theorem ans0 {w : World} {base p : Nat} {lv ov tv : Value} {os : List RM} {c : Co} (m : Mg) (ea : Option Addr) (en ec : Nat) (r : Nat → Value) (h : CAt w base p lv ov tv os c) (ok : Ok c) (ht0 : 0 ≤ m.term) (ht1 : m.term ≤ 18446744073709551615) (hst : I64 m.stamp) (hma : I64 m.mat) (hl : c.out.length ≤ 80) (hd : c.dest.length ≤ 80) (hr : (c.follow m.term).role = 2) (ht : m.term = (c.follow m.term).term) :
    Calls Try.prog 48 #[.pointer (some ⟨p, 0, none⟩), .int .i64 0, .agg #[.int .i64 m.kind, .int .u64 m.term, .int .i64 m.prev, .int .u64 m.pterm, .slice ea en ec, .int .i64 m.commit, .bool m.yes, .int .i64 m.mat, .int .i64 m.stamp, r 0, r 1, r 2, r 3, r 4, r 5, r 6, r 7, r 8, r 9, r 10, r 11, r 12, r 13, r 14, r 15, r 16]] w (Tup0 (CUpd base p lv ov tv (c.answered 0 m) w)) := by
  have mixed : Try.prog.follows .mixedOrders = true := by kernel_rfl
  have HW := Lib.hid (show Below w.heap.size w ((w.alloc (.cells #[.pointer (some ⟨p, 0, none⟩)] 31)).alloc (.cells (mArr m ea en ec r) 46)) from (bel1 w _).trans ((bel1 _ _).mono (by simp)))
  have HB0 := Lib.hid (blk_below (heap_alloc_new w (.cells #[.pointer (some ⟨p, 0, none⟩)] 31)) (bel1 _ (.cells (mArr m ea en ec r) 46)))
  have HB1 := Lib.hid (heap_alloc2_new w (.cells #[.pointer (some ⟨p, 0, none⟩)] 31) (.cells (mArr m ea en ec r) 46))
  have HNE := Lib.hid (show w.heap.size ≠ p ∧ w.heap.size + 1 ≠ p from ⟨by have := h.toCL.lt.1; omega, by have := h.toCL.lt.1; omega⟩)
  have HF := Lib.hid (follow_any m.term (h.below HW.out))
  have b0 := (cell_of HB0.out 0 (v := .pointer (some ⟨p, 0, none⟩)) rfl).1
  have b1 := (cell_of HB1.out 1 (v := .int .u64 m.term) rfl).1
  have HOK := Lib.hid (ok_follow ok ht0 ht1)
  have HO := Lib.hid (follow_out c m.term)
  have HL := Lib.hid (And.intro hl hd)
  have HS := Lib.hid (And.intro hst hma)
  have HV := Lib.hid (show c.answered 0 m = (if m.yes = false then (((c.follow m.term).stampD 0 m).noN 0 m).entries 0 else if ((c.follow m.term).stampD 0 m).matN 0 m + 1 ≤ ((((c.follow m.term).stampD 0 m).log.length : Nat) : Int) then ((((c.follow m.term).stampD 0 m).yesN 0 m).commits).entries 0 else (((c.follow m.term).stampD 0 m).yesN 0 m).commits) by unfold Co.answered; simp only; rw [if_neg (by intro e; rcases e with e | e; exact e hr; exact e ht)]; rfl)
  have t1 : ((c.follow m.term).role != 2) = false := by simp [hr]
  have t2 : (m.term != (c.follow m.term).term) = false := by rw [← ht]; simp
  have HR := Lib.hid hr
  generalize c.follow m.term = d at *
  clear h ok ht0 ht1 hst hma hl hd hr ht
  go_enter Try.func48, Try.ntmps48
  go_upto_region 2 with (go_at_call 61; refine HF.out.mono ?_; rintro e w1 ⟨rfl, hC, hM⟩; have A1 := Lib.hid (show AnsW ((w.alloc (.cells #[.pointer (some ⟨p, 0, none⟩)] 31)).alloc (.cells (mArr m ea en ec r) 46)) w.heap.size base p lv ov tv os (mArr m ea en ec r) d w1 from ⟨hC, hM.heap HB0.out HNE.out.1, hM.heap HB1.out HNE.out.2, hM, HNE.out⟩); obtain ⟨k0, k1⟩ := (And.intro (cell_of A1.out.b0 0 (v := .pointer (some ⟨p, 0, none⟩)) rfl).1 (cell_of A1.out.b1 1 (v := .int .u64 m.term) rfl).1); obtain ⟨g1, g5⟩ := (And.intro hC.toCL.cells.1.2.1 hC.toCL.cells.1.2.2.2.2.2.1); clear hC hM)
  go_quiet (fail)
  have A2 := Lib.hid (A1.out.below (below_drewN' w1 nq))
  clear k0 k1 g1 g5 b0 b1
  generalize w1.drewN nq = w2 at *
  clear A1
  have x0 := (cell_of A2.out.b0 0 (v := .pointer (some ⟨p, 0, none⟩)) rfl).1
  have x8 := (cell_of A2.out.b1 8 (v := .int .i64 m.stamp) rfl).1
  have gn := A2.out.cat.toCL.cells.1.2.2.2.2.2.2.2.2.2.2.1
  go_upto_region 4 with fail
  go_quiet (fail)
  have A3 := Lib.hid (A2.out.below (below_drewN' w2 nq))
  clear x0 x8 gn
  generalize w2.drewN nq = w3 at *
  clear A2
  go_upto_if 40 with fail
  go_cut [] (fun wx => AnsW ((w.alloc (.cells #[.pointer (some ⟨p, 0, none⟩)] 31)).alloc (.cells (mArr m ea en ec r) 46)) w.heap.size base p lv ov tv os (mArr m ea en ec r) (d.stampD 0 m) wx)
  case first =>
    by_cases hs : m.stamp ≤ d.now
    · have HE := Lib.hid (show d.stampD 0 m = d.setPr 0 { d.pr 0 with stamp := max (d.pr 0).stamp m.stamp } by unfold Co.stampD; rw [if_pos hs])
      obtain ⟨mx, hmx⟩ : ∃ mx, mx = max (d.pr 0).stamp m.stamp := ⟨_, rfl⟩
      rw [← hmx] at HE
      have hif : (if (d.pr 0).stamp < m.stamp then m.stamp else (d.pr 0).stamp) = mx := by rw [hmx]; split <;> omega
      have HC3 := Lib.hid (show Cel2 ⟨p, 13, none⟩ (.int .i64 (d.pr 0).stamp) ⟨w.heap.size + 1, 8, none⟩ (.int .i64 m.stamp) w3 from ⟨(cell_of A3.out.cat.blk 13 rfl).1, (cell_of A3.out.b1 8 rfl).1⟩)
      clear hmx
      go_upto_region 5 with fail
      obtain ⟨Y, hY⟩ : ∃ Y, Y = w3 := ⟨_, rfl⟩
      subst hY
      refine wp_region_noPanic ?_
      refine wp_region_lim (Cel2 ⟨p, 13, none⟩ (.int .i64 (d.pr 0).stamp) ⟨w.heap.size + 1, 8, none⟩ (.int .i64 m.stamp)) (fun i => decide (i < 10)) (fun i => false) (by kernel_rfl) (by kernel_rfl) ⟨keepc' HC3.out.1 (Below.refl _ _).drew, keepc' HC3.out.2 (Below.refl _ _).drew⟩ (fun HT hS0 => ?_)
      refine tkD HT 0 41 (v := ?_) ?_ ?_
      rotate_left
      · (intro w5 hSw; obtain ⟨q1, q2⟩ := hSw; go_simp; (try with_reducible rfl))
      try simp only [s1, s2, s3]
      refine tkD HT 1 42 (v := ?_) ?_ ?_
      rotate_left
      · (intro w5 hSw; obtain ⟨q1, q2⟩ := hSw; go_simp; (try with_reducible rfl))
      try simp only [s1, s2, s3]
      refine tkD HT 2 43 (v := ?_) ?_ ?_
      rotate_left
      · (intro w5 hSw; obtain ⟨q1, q2⟩ := hSw; go_simp; (try with_reducible rfl))
      try simp only [s1, s2, s3]
      refine tkD HT 3 44 (v := ?_) ?_ ?_
      rotate_left
      · (intro w5 hSw; obtain ⟨q1, q2⟩ := hSw; go_simp; (try with_reducible rfl))
      try simp only [s1, s2, s3]
      refine tkD HT 4 45 (v := ?_) ?_ ?_
      rotate_left
      · (intro w5 hSw; obtain ⟨q1, q2⟩ := hSw; go_simp; (try with_reducible rfl))
      try simp only [s1, s2, s3]
      refine tkD HT 5 46 (v := ?_) ?_ ?_
      rotate_left
      · (intro w5 hSw; obtain ⟨q1, q2⟩ := hSw; go_simp; (try with_reducible rfl))
      try simp only [s1, s2, s3]
      refine tkD HT 6 47 (v := ?_) ?_ ?_
      rotate_left
      · (intro w5 hSw; obtain ⟨q1, q2⟩ := hSw; go_simp; (try with_reducible rfl))
      try simp only [s1, s2, s3]
      refine tkD HT 7 48 (v := ?_) ?_ ?_
      rotate_left
      · (intro w5 hSw; obtain ⟨q1, q2⟩ := hSw; go_simp; (try with_reducible rfl))
      try simp only [s1, s2, s3]
      refine tkD HT 8 49 (v := ?_) ?_ ?_
      rotate_left
      · (intro w5 hSw; obtain ⟨q1, q2⟩ := hSw; go_simp; (try with_reducible rfl))
      try simp only [s1, s2, s3]
      refine tkD HT 9 50 (v := ?_) ?_ ?_
      rotate_left
      · (intro w5 hSw; obtain ⟨q1, q2⟩ := hSw; go_simp; (try with_reducible rfl))
      try simp only [s1, s2, s3]
      obtain ⟨k1, k1f⟩ := cell_of (A3.out.cat.below (Below.refl _ _).drew).blk 13 (v := .int .i64 (d.pr 0).stamp) rfl
      refine tkL 10 (fun K5 hK => ?_)
      go_simp
      refine hK.out _ _ ?_
      clear hK K5
      try simp only [Act.put, s1, s2, s3]
      refine wpAnyM_done (by kernel_rfl) (NoPanic.normal ?_)
      go_wp2
      go_meet
      rw [HE.out]
      exact (A3.out.put (c' := d.setPr 0 { d.pr 0 with stamp := mx }) (w' := Y.setCell ⟨p, 13, none⟩ (.int .i64 mx)) (by rw [setCell_blk A3.out.cat.blk]; rfl) (Mod.cellOf p 13 _) rfl rfl rfl).below (Below.refl _ _).drew
    · have HE := Lib.hid (show d.stampD 0 m = d by unfold Co.stampD; rw [if_neg hs])
      go_wp2
      go_meet
      rw [HE.out]
      exact A3.out
  case rest =>
    obtain ⟨la, lc, hv, hsl, -⟩ := own_sl hcut.cat.log
    subst hv
    have EOK := Lib.hid (ok_stamp HOK.out 0 HS.out.1)
    have EO := Lib.hid (stamp_out d 0 m)
    have HR2 := Lib.hid ((stamp_out d 0 m).2.2.2.2.2.2.1.trans HR.out)
    have HEL := Lib.hid (show (d.stampD 0 m).out.length ≤ 90 ∧ (d.stampD 0 m).dest.length ≤ 90 from ⟨by rw [EO.out.1, HO.out.1]; have := HL.out.1; omega, by rw [EO.out.2.1, HO.out.2.1]; have := HL.out.2; omega⟩)
    clear EO
    generalize d.stampD 0 m = e at *
    have A4 := Lib.hid hcut
    have HSL := Lib.hid hsl
    clear hcut hsl A3 HF t1 t2
    have x6 := (cell_of A4.out.b1 6 (v := .bool m.yes) rfl).1
    obtain ⟨n1, n2, n3⟩ := EOK.out.led HR2.out 0 (by omega)
    have n0 := (EOK.out.pr 0 (by omega)).2.2.2.2.1
    have n4 := EOK.out.log
    have n5 : (e.pr 0).next ≤ 301 := by omega
    have HNX := Lib.hid (And.intro n0 (And.intro n1 (And.intro n2 n3)))
    clear n2 n3
    cases hy : m.yes with
    | false =>
      have HV2 := Lib.hid (show c.answered 0 m = (e.noN 0 m).entries 0 by rw [HV.out, if_pos hy])
      rw [hy] at x6
      obtain ⟨a, ha⟩ : ∃ a, a = max m.mat 0 := ⟨_, rfl⟩
      obtain ⟨b, hb⟩ : ∃ b, b = min ((e.pr 0).next - 1) a := ⟨_, rfl⟩
      obtain ⟨k, hk⟩ : ∃ k, k = max (e.pr 0).mat b := ⟨_, rfl⟩
      have hNN := Lib.hid (show e.noN 0 m = e.setPr 0 { e.pr 0 with next := k + 1 } by unfold Co.noN; rw [hk, hb, ha])
      have hk0 : 0 ≤ k := by omega
      have hk3 : k ≤ 300 := by have := HNX.out; omega
      have HKK := Lib.hid (show 0 ≤ k ∧ k ≤ e.log.length from by have := HNX.out; omega)
      have iA : (if m.mat < 0 then 0 else m.mat) = a := by rw [ha]; split <;> omega
      have iB : (if a < (e.pr 0).next - 1 then a else (e.pr 0).next - 1) = b := by rw [hb]; split <;> omega
      have iK : (if (e.pr 0).mat < b then b else (e.pr 0).mat) = k := by rw [hk]; split <;> omega
      have hw1 : IntKind.i64.wrap ((e.pr 0).next - 1) = (e.pr 0).next - 1 := IntWalk.i64_in _ (by omega)
      have hw2 : IntKind.i64.wrap (k + 1) = k + 1 := IntWalk.i64_in _ (by omega)
      have HC := Lib.hid (show Cel3 ⟨p, 11, none⟩ (.int .i64 (e.pr 0).mat) ⟨p, 12, none⟩ (.int .i64 (e.pr 0).next) ⟨w.heap.size + 1, 7, none⟩ (.int .i64 m.mat) wc from ⟨(cell_of A4.out.cat.blk 11 rfl).1, (cell_of A4.out.cat.blk 12 rfl).1, (cell_of A4.out.b1 7 rfl).1⟩)
      clear ha hb hk hy HV
      go_upto_region 7 with fail
      obtain ⟨Y, hY⟩ : ∃ Y, Y = wc := ⟨_, rfl⟩
      subst hY
      refine wp_region_noPanic ?_
      refine wp_region_lim (Cel3 ⟨p, 11, none⟩ (.int .i64 (e.pr 0).mat) ⟨p, 12, none⟩ (.int .i64 (e.pr 0).next) ⟨w.heap.size + 1, 7, none⟩ (.int .i64 m.mat)) (fun i => decide (i < 18)) (fun i => false) (by kernel_rfl) (by kernel_rfl) ⟨keepc' HC.out.1 (Below.refl _ _).drew, keepc' HC.out.2.1 (Below.refl _ _).drew, keepc' HC.out.2.2 (Below.refl _ _).drew⟩ (fun HT hS0 => ?_)
      refine tkD HT 0 54 (v := ?_) ?_ ?_
      rotate_left
      · (intro w5 hSw; obtain ⟨q1, q2, q3⟩ := hSw; go_simp; (try with_reducible rfl))
      try simp only [s1, s2, s3]
      refine tkD HT 1 55 (v := ?_) ?_ ?_
      rotate_left
      · (intro w5 hSw; obtain ⟨q1, q2, q3⟩ := hSw; go_simp; (try with_reducible rfl))
      try simp only [s1, s2, s3]
      refine tkD HT 2 56 (v := ?_) ?_ ?_
      rotate_left
      · (intro w5 hSw; obtain ⟨q1, q2, q3⟩ := hSw; go_simp; (try with_reducible rfl))
      try simp only [s1, s2, s3]
      refine tkD HT 3 57 (v := ?_) ?_ ?_
      rotate_left
      · (intro w5 hSw; obtain ⟨q1, q2, q3⟩ := hSw; go_simp; (try with_reducible rfl))
      try simp only [s1, s2, s3]
      refine tkD HT 4 58 (v := ?_) ?_ ?_
      rotate_left
      · (intro w5 hSw; obtain ⟨q1, q2, q3⟩ := hSw; go_simp; (try with_reducible rfl))
      try simp only [s1, s2, s3]
      refine tkD HT 5 59 (v := ?_) ?_ ?_
      rotate_left
      · (intro w5 hSw; obtain ⟨q1, q2, q3⟩ := hSw; go_simp; (try with_reducible rfl))
      try simp only [s1, s2, s3]
      refine tkD HT 6 60 (v := ?_) ?_ ?_
      rotate_left
      · (intro w5 hSw; obtain ⟨q1, q2, q3⟩ := hSw; go_simp; (try with_reducible rfl))
      try simp only [s1, s2, s3]
      refine tkD HT 7 61 (v := ?_) ?_ ?_
      rotate_left
      · (intro w5 hSw; obtain ⟨q1, q2, q3⟩ := hSw; go_simp; (try with_reducible rfl))
      try simp only [s1, s2, s3]
      refine tkD HT 8 62 (v := ?_) ?_ ?_
      rotate_left
      · (intro w5 hSw; obtain ⟨q1, q2, q3⟩ := hSw; go_simp; (try with_reducible rfl))
      try simp only [s1, s2, s3]
      refine tkD HT 9 63 (v := ?_) ?_ ?_
      rotate_left
      · (intro w5 hSw; obtain ⟨q1, q2, q3⟩ := hSw; go_simp; (try with_reducible rfl))
      try simp only [s1, s2, s3]
      refine tkD HT 10 64 (v := ?_) ?_ ?_
      rotate_left
      · (intro w5 hSw; obtain ⟨q1, q2, q3⟩ := hSw; go_simp; (try with_reducible rfl))
      try simp only [s1, s2, s3]
      refine tkD HT 11 65 (v := ?_) ?_ ?_
      rotate_left
      · (intro w5 hSw; obtain ⟨q1, q2, q3⟩ := hSw; go_simp; (try with_reducible rfl))
      try simp only [s1, s2, s3]
      refine tkD HT 12 66 (v := ?_) ?_ ?_
      rotate_left
      · (intro w5 hSw; obtain ⟨q1, q2, q3⟩ := hSw; go_simp; (try with_reducible rfl))
      try simp only [s1, s2, s3]
      refine tkD HT 13 67 (v := ?_) ?_ ?_
      rotate_left
      · (intro w5 hSw; obtain ⟨q1, q2, q3⟩ := hSw; go_simp; (try with_reducible rfl))
      try simp only [s1, s2, s3]
      refine tkD HT 14 68 (v := ?_) ?_ ?_
      rotate_left
      · (intro w5 hSw; obtain ⟨q1, q2, q3⟩ := hSw; go_simp; (try with_reducible rfl))
      try simp only [s1, s2, s3]
      refine tkD HT 15 69 (v := ?_) ?_ ?_
      rotate_left
      · (intro w5 hSw; obtain ⟨q1, q2, q3⟩ := hSw; go_simp; (try with_reducible rfl))
      try simp only [s1, s2, s3]
      refine tkD HT 16 70 (v := ?_) ?_ ?_
      rotate_left
      · (intro w5 hSw; obtain ⟨q1, q2, q3⟩ := hSw; go_simp; (try with_reducible rfl))
      try simp only [s1, s2, s3]
      refine tkD HT 17 71 (v := ?_) ?_ ?_
      rotate_left
      · (intro w5 hSw; obtain ⟨q1, q2, q3⟩ := hSw; go_simp; (try with_reducible rfl))
      try simp only [s1, s2, s3]
      obtain ⟨k1, k1f⟩ := cell_of (A4.out.cat.below (Below.refl _ _).drew).blk 12 (v := .int .i64 (e.pr 0).next) rfl
      refine tkL 18 (fun K5 hK => ?_)
      go_simp
      refine hK.out _ _ ?_
      clear hK K5
      try simp only [Act.put, s1, s2, s3]
      refine wpAnyM_done (by kernel_rfl) (NoPanic.normal ?_)
      have A5 := Lib.hid (show AnsW ((w.alloc (.cells #[.pointer (some ⟨p, 0, none⟩)] 31)).alloc (.cells (mArr m ea en ec r) 46)) w.heap.size base p (.slice la e.log.length lc) ov tv os (mArr m ea en ec r) (e.noN 0 m) (Y.setCell ⟨p, 12, none⟩ (.int .i64 (k + 1))).drew by rw [hNN.out]; exact (A4.out.put (c' := e.setPr 0 { e.pr 0 with next := k + 1 }) (w' := Y.setCell ⟨p, 12, none⟩ (.int .i64 (k + 1))) (by rw [setCell_blk A4.out.cat.blk]; rfl) (Mod.cellOf p 12 _) rfl rfl rfl).below (Below.refl _ _).drew)
      have x0 := (cell_of A5.out.b0 0 (v := .pointer (some ⟨p, 0, none⟩)) rfl).1
      generalize (Y.setCell ⟨p, 12, none⟩ (.int .i64 (k + 1))).drew = w6 at *
      clear k1 k1f x6 iA iB iK hw1 hw2
      have HCE := Lib.hid (entries_any 0 (by omega) A5.out.cat (by rw [hNN.out]; show 1 ≤ (if 0 = 0 then ({ e.pr 0 with next := k + 1 } : Pr) else e.pr 0).next; rw [if_pos rfl]; show 1 ≤ k + 1; omega) (by rw [hNN.out]; show (if 0 = 0 then ({ e.pr 0 with next := k + 1 } : Pr) else e.pr 0).next ≤ (e.log.length : Int) + 1; rw [if_pos rfl]; show k + 1 ≤ (e.log.length : Int) + 1; have := HKK.out; omega) EOK.out.log (by have := HEL.out.1; show e.out.length ≤ 100; omega) (by have := HEL.out.2; show e.dest.length ≤ 100; omega))
      go_wp2_with (go_at_call 39; refine HCE.out.mono ?_; rintro e1 w7 ⟨rfl, hU⟩)
      go_end0
      rw [HV2.out]
      exact ⟨rfl, CUpd.below HW.out (CUpd.then (A5.out.mod.mono (fun _ _ e => Or.inl e)) (fun _ hk => .inl hk) hU)⟩
    | true =>
      rw [hy] at x6
      have g3 := A4.out.cat.toCL.cells.1.2.2.2.1
      have x0 := (cell_of A4.out.b0 0 (v := .pointer (some ⟨p, 0, none⟩)) rfl).1
      obtain ⟨a, ha⟩ : ∃ a, a = min m.mat (e.log.length : Int) := ⟨_, rfl⟩
      obtain ⟨k, hk⟩ : ∃ k, k = max (e.pr 0).mat a := ⟨_, rfl⟩
      have hKM := Lib.hid (show e.matN 0 m = k by unfold Co.matN; rw [hk, ha])
      have hYN := Lib.hid (show e.yesN 0 m = e.setPr 0 { e.pr 0 with mat := k, next := k + 1 } by unfold Co.yesN; rw [hKM.out])
      have hk0 : 0 ≤ k := by omega
      have hk3 : k ≤ 300 := by have := HNX.out; omega
      have HKK := Lib.hid (show 0 ≤ k ∧ k ≤ e.log.length from by have := HNX.out; omega)
      have iA : (if (e.log.length : Int) < m.mat then (e.log.length : Int) else m.mat) = a := by rw [ha]; split <;> omega
      have iK : (if (e.pr 0).mat < a then a else (e.pr 0).mat) = k := by rw [hk]; split <;> omega
      have HC := Lib.hid (show Cel2 ⟨p, 11, none⟩ (.int .i64 (e.pr 0).mat) ⟨w.heap.size + 1, 7, none⟩ (.int .i64 m.mat) wc from ⟨(cell_of A4.out.cat.blk 11 rfl).1, (cell_of A4.out.b1 7 rfl).1⟩)
      have HV2 := Lib.hid (show c.answered 0 m = if k + 1 ≤ (e.log.length : Int) then ((e.yesN 0 m).commits).entries 0 else (e.yesN 0 m).commits by rw [HV.out, if_neg (by rw [hy]; simp), hKM.out])
      clear ha hk hy HV
      go_upto_region 10 with fail
      obtain ⟨Y, hY⟩ : ∃ Y, Y = wc := ⟨_, rfl⟩
      subst hY
      refine wp_region_noPanic ?_
      refine wp_region_lim (Cel2 ⟨p, 11, none⟩ (.int .i64 (e.pr 0).mat) ⟨w.heap.size + 1, 7, none⟩ (.int .i64 m.mat)) (fun i => decide (i < 12)) (fun i => false) (by kernel_rfl) (by kernel_rfl) ⟨keepc' HC.out.1 (Below.refl _ _).drew, keepc' HC.out.2 (Below.refl _ _).drew⟩ (fun HT hS0 => ?_)
      refine tkD HT 0 81 (v := ?_) ?_ ?_
      rotate_left
      · (intro w5 hSw; obtain ⟨q1, q2⟩ := hSw; go_simp; (try with_reducible rfl))
      try simp only [s1, s2, s3]
      refine tkD HT 1 82 (v := ?_) ?_ ?_
      rotate_left
      · (intro w5 hSw; obtain ⟨q1, q2⟩ := hSw; go_simp; (try with_reducible rfl))
      try simp only [s1, s2, s3]
      refine tkD HT 2 83 (v := ?_) ?_ ?_
      rotate_left
      · (intro w5 hSw; obtain ⟨q1, q2⟩ := hSw; go_simp; (try with_reducible rfl))
      try simp only [s1, s2, s3]
      refine tkD HT 3 84 (v := ?_) ?_ ?_
      rotate_left
      · (intro w5 hSw; obtain ⟨q1, q2⟩ := hSw; go_simp; (try with_reducible rfl))
      try simp only [s1, s2, s3]
      refine tkD HT 4 85 (v := ?_) ?_ ?_
      rotate_left
      · (intro w5 hSw; obtain ⟨q1, q2⟩ := hSw; go_simp; (try with_reducible rfl))
      try simp only [s1, s2, s3]
      refine tkD HT 5 86 (v := ?_) ?_ ?_
      rotate_left
      · (intro w5 hSw; obtain ⟨q1, q2⟩ := hSw; go_simp; (try with_reducible rfl))
      try simp only [s1, s2, s3]
      refine tkD HT 6 87 (v := ?_) ?_ ?_
      rotate_left
      · (intro w5 hSw; obtain ⟨q1, q2⟩ := hSw; go_simp; (try with_reducible rfl))
      try simp only [s1, s2, s3]
      refine tkD HT 7 88 (v := ?_) ?_ ?_
      rotate_left
      · (intro w5 hSw; obtain ⟨q1, q2⟩ := hSw; go_simp; (try with_reducible rfl))
      try simp only [s1, s2, s3]
      refine tkD HT 8 89 (v := ?_) ?_ ?_
      rotate_left
      · (intro w5 hSw; obtain ⟨q1, q2⟩ := hSw; go_simp; (try with_reducible rfl))
      try simp only [s1, s2, s3]
      refine tkD HT 9 90 (v := ?_) ?_ ?_
      rotate_left
      · (intro w5 hSw; obtain ⟨q1, q2⟩ := hSw; go_simp; (try with_reducible rfl))
      try simp only [s1, s2, s3]
      refine tkD HT 10 91 (v := ?_) ?_ ?_
      rotate_left
      · (intro w5 hSw; obtain ⟨q1, q2⟩ := hSw; go_simp; (try with_reducible rfl))
      try simp only [s1, s2, s3]
      refine tkD HT 11 92 (v := ?_) ?_ ?_
      rotate_left
      · (intro w5 hSw; obtain ⟨q1, q2⟩ := hSw; go_simp; (try with_reducible rfl))
      try simp only [s1, s2, s3]
      obtain ⟨k1, k1f⟩ := cell_of (A4.out.cat.below (Below.refl _ _).drew).blk 11 (v := .int .i64 (e.pr 0).mat) rfl
      refine tkL 12 (fun K5 hK => ?_)
      go_simp
      refine hK.out _ _ ?_
      clear hK K5
      try simp only [Act.put, s1, s2, s3]
      refine wpAnyM_done (by kernel_rfl) (NoPanic.normal ?_)
      have A5 := Lib.hid (show AnsW ((w.alloc (.cells #[.pointer (some ⟨p, 0, none⟩)] 31)).alloc (.cells (mArr m ea en ec r) 46)) w.heap.size base p (.slice la e.log.length lc) ov tv os (mArr m ea en ec r) (e.setPr 0 { e.pr 0 with mat := k }) (Y.setCell ⟨p, 11, none⟩ (.int .i64 k)).drew from (A4.out.put (c' := e.setPr 0 { e.pr 0 with mat := k }) (w' := Y.setCell ⟨p, 11, none⟩ (.int .i64 k)) (by rw [setCell_blk A4.out.cat.blk]; rfl) (Mod.cellOf p 11 _) rfl rfl rfl).below (Below.refl _ _).drew)
      generalize (Y.setCell ⟨p, 11, none⟩ (.int .i64 k)).drew = w6 at *
      clear k1 k1f x6 x0 g3 iA iK
      have y0 := (cell_of A5.out.cat.blk 11 (v := .int .i64 k) rfl).1
      obtain ⟨y1, y1f⟩ := cell_of A5.out.cat.blk 12 (v := .int .i64 (e.pr 0).next) rfl
      go_upto_region 12 with fail
      have A6 := Lib.hid (show AnsW ((w.alloc (.cells #[.pointer (some ⟨p, 0, none⟩)] 31)).alloc (.cells (mArr m ea en ec r) 46)) w.heap.size base p (.slice la e.log.length lc) ov tv os (mArr m ea en ec r) (e.yesN 0 m) (w6.setCell ⟨p, 12, none⟩ (.int .i64 (k + 1))) by rw [hYN.out]; exact A5.out.put (c' := e.setPr 0 { e.pr 0 with mat := k, next := k + 1 }) (by rw [setCell_blk A5.out.cat.blk]; rfl) (Mod.cellOf p 12 _) rfl rfl rfl)
      clear y0 y1 y1f
      generalize w6.setCell ⟨p, 12, none⟩ (.int .i64 (k + 1)) = w7 at *
      have z0 := (cell_of A6.out.b0 0 (v := .pointer (some ⟨p, 0, none⟩)) rfl).1
      have z0o := fun o1 o2 => (cell_of (A6.out.below ((bel1 w7 o1).trans ((bel1 _ o2).mono (by simp)))).b0 0 (v := .pointer (some ⟨p, 0, none⟩)) rfl).1
      have HCL := Lib.hid A6.out.cat.toCL
      obtain ⟨u, hu⟩ : ∃ u, u = e.log.length := ⟨_, rfl⟩
      have HGL := Lib.hid (show (e.yesN 0 m).log.length = u by rw [hu]; rfl)
      have HGO := Lib.hid (show (e.yesN 0 m).out.length ≤ 90 ∧ (e.yesN 0 m).dest.length ≤ 90 ∧ (e.yesN 0 m).me = e.me ∧ (e.yesN 0 m).term = e.term ∧ (e.yesN 0 m).log = e.log ∧ (e.yesN 0 m).commit = e.commit from ⟨HEL.out.1, HEL.out.2, rfl, rfl, rfl, rfl⟩)
      have HNK := Lib.hid (show ((e.yesN 0 m).pr 0).next = k + 1 by rw [hYN.out]; show (if 0 = 0 then ({ e.pr 0 with mat := k, next := k + 1 } : Pr) else e.pr 0).next = k + 1; rw [if_pos rfl])
      obtain ⟨xa, xb, hml, hmid⟩ := ml_3 (c := e.yesN 0 m) EOK.out.me
      have HML := Lib.hid hml
      have HMI := Lib.hid hmid
      have hK := mats_le (c := e.yesN 0 m) (fun q hq => ?_)
      rotate_left
      · show ((e.setPr 0 { e.pr 0 with mat := e.matN 0 m, next := e.matN 0 m + 1 }).pr q).mat ≤ e.log.length
        show (if q = 0 then ({ e.pr 0 with mat := e.matN 0 m, next := e.matN 0 m + 1 } : Pr) else e.pr q).mat ≤ e.log.length
        split
        · show e.matN 0 m ≤ _; rw [hKM.out]; exact HKK.out.2
        · exact (EOK.out.led HR2.out q hq).2.2
      have HKm := Lib.hid hK
      clear hml hmid hK
      have AI := Lib.hid (ansI_start (p := p) (n := (e.log.length : Int)) A6.out.b0)
      have HNB := Lib.hid (blk_lt A6.out.b0)
      go_upto_region 14 with fail
      go_at_call 36
      refine ((match_others HCL.out (Nat.le_succ _) HNB.out AI.out)).mono ?_
      rintro e1 w8 ⟨rfl, hAI⟩
      have AJ := Lib.hid hAI
      clear hAI
      obtain ⟨K, hKK⟩ : ∃ K, K = (e.yesN 0 m).mats := ⟨_, rfl⟩
      rw [← hKK] at HKm
      have hml2 : ml (e.yesN 0 m) (e.log.length : Int) 3 = [(e.log.length : Int), xa, xb] := HML.out
      have AJ2 := AJ.out
      rw [hml2] at AJ2
      obtain ⟨sv, r1, r2⟩ := AJ2.row
      obtain ⟨sg, scap, hsv, hs1, -⟩ := OwnL.form r2 (by simp)
      subst hsv
      have SC := Lib.hid (show Calls Try.prog 68 #[.slice (some ⟨sg, 0, none⟩) 3 scap] w8 (fun e' w' => e' = .returned (.int .i64 K) ∧ Mod (fun k => k = sg) w8 w') by rw [hKK, ← HMI.out]; exact second_of _ _ _ sg scap w8 (tri_own r2))
      have HKE := Lib.hid hKK
      have HSG := Lib.hid hs1
      have x8 := (cell_of r1 0 rfl).1
      clear r1 r2 hKK hml2 AJ2 hs1 AI
      go_upto_region 15 with (go_at_call 68; refine SC.out.mono ?_; rintro e1 w9 ⟨rfl, hm9⟩; have A9 := Lib.hid (A6.out.below (AJ.out.bel.trans (hm9.below AJ.out.bel.size (fun k e => by have := HSG.out; omega)))); clear hm9)
      clear x8 z0 z0o
      have x0 := (cell_of A9.out.b0 0 (v := .pointer (some ⟨p, 0, none⟩)) rfl).1
      obtain ⟨f1, f3, f4⟩ := (And.intro A9.out.cat.toCL.cells.1.2.1 (And.intro A9.out.cat.toCL.cells.1.2.2.2.1 A9.out.cat.toCL.cells.1.2.2.2.2.1))
      have HSL9 := Lib.hid (sl_of_own A9.out.cat.log)
      have hKt := HKm.out
      by_cases hk1 : (e.yesN 0 m).commit < K
      · obtain ⟨i, hi⟩ : ∃ i : Nat, K = (i : Int) + 1 := ⟨(K - 1).toNat, by have := EOK.out.commit.1; have h5 : e.commit < K := hk1; omega⟩
        have hil : i < e.log.length := by have h5 : K ≤ (e.log.length : Int) := HKm.out; omega
        have hwK : IntKind.i64.wrap (K - 1) = (i : Int) := by rw [hi]; rw [IntWalk.i64_in _ (by omega)]; omega
        have hil2 : (i : Int) < (e.log.length : Int) := by omega
        obtain ⟨b, off, hla, hec⟩ := HSL9.out.ents i hil
        subst hla
        have f9 := hec.1
        have hG0 := Lib.hid (show (e.yesN 0 m).commits = if ((e.yesN 0 m).log.getD i default).1 = (e.yesN 0 m).term then { (e.yesN 0 m) with commit := K } else e.yesN 0 m by unfold Co.commits; rw [← HKE.out]; rw [show (K - 1).toNat = i by omega]; by_cases ht : ((e.yesN 0 m).log.getD i default).1 = (e.yesN 0 m).term; rw [if_pos ⟨hk1, ht⟩, if_pos ht]; rw [if_neg (fun e => ht e.2), if_neg ht])
        clear hec
        by_cases hte : ((e.yesN 0 m).log.getD i default).1 = (e.yesN 0 m).term
        · have hG := Lib.hid (hG0.out.trans (if_pos hte))
          have tb : (((e.yesN 0 m).log.getD i default).1 == (e.yesN 0 m).term) = true := by simpa using hte
          have HI := Lib.hid hi
          clear hte hi
          generalize ((e.yesN 0 m).log.getD i default).1 = xt at *
          go_quiet (fail)
          obtain ⟨q4, q4f⟩ := cell_of (A9.out.below (below_drewN' w9 nq)).cat.blk 4 (v := .int .i64 (e.yesN 0 m).commit) rfl
          go_upto_region 17 with fail
          have AF := Lib.hid (show AnsW ((w.alloc (.cells #[.pointer (some ⟨p, 0, none⟩)] 31)).alloc (.cells (mArr m ea en ec r) 46)) w.heap.size base p (.slice (some ⟨b, off, none⟩) e.log.length lc) ov tv os (mArr m ea en ec r) (e.yesN 0 m).commits ((w9.drewN nq).setCell ⟨p, 4, none⟩ (.int .i64 K)) by rw [hG.out]; exact (A9.out.below (below_drewN' w9 nq)).put (c' := { (e.yesN 0 m) with commit := K }) (by rw [setCell_blk (A9.out.below (below_drewN' w9 nq)).cat.blk]; rfl) (Mod.cellOf p 4 _) rfl rfl rfl)
          clear q4 q4f
          generalize (w9.drewN nq).setCell ⟨p, 4, none⟩ (.int .i64 K) = wF at *
          clear x0 f1 f3 f4
          have gx := (cell_of AF.out.b0 0 (v := .pointer (some ⟨p, 0, none⟩)) rfl).1
          have hnk : (((e.yesN 0 m).commits).pr 0).next = k + 1 := by rw [(commits_out _).2.2.2]; exact HNK.out
          have gn := (cell_of AF.out.cat.blk 12 (v := .int .i64 (((e.yesN 0 m).commits).pr 0).next) rfl).1
          rw [hnk] at gn
          have HNX2 := Lib.hid hnk
          clear hnk
          by_cases hle : k + 1 ≤ (e.log.length : Int)
          · have hV3 := Lib.hid (HV2.out.trans (if_pos hle))
            have HCE := Lib.hid (entries_any 0 (by omega) AF.out.cat (by rw [HNX2.out]; omega) (by rw [HNX2.out, (commits_out _).2.2.1]; show k + 1 ≤ (e.log.length : Int) + 1; omega) (by rw [(commits_out _).2.2.1]; exact EOK.out.log) (by rw [(commits_out _).1]; have := HGO.out.1; omega) (by rw [(commits_out _).2.1]; have := HGO.out.2.1; omega))
            go_wp2_with (go_at_call 39; refine HCE.out.mono ?_; rintro e1 wZ ⟨rfl, hU⟩)
            go_end0
            rw [hV3.out]
            exact ⟨rfl, CUpd.below HW.out (CUpd.then (AF.out.mod.mono (fun _ _ e => Or.inl e)) (fun _ hk => .inl hk) hU)⟩
          · have hV3 := Lib.hid (HV2.out.trans (if_neg hle))
            have hle2 : (e.log.length : Int) < k + 1 := by omega
            go_wp2
            go_end0
            rw [hV3.out]
            exact ⟨rfl, CUpd.below HW.out (CUpd.then (AF.out.mod.mono (fun _ _ e => Or.inl e)) (fun _ hk => .inl hk) (AF.out.cat.stay (Below.refl _ _)))⟩
        · have hG := Lib.hid (hG0.out.trans (if_neg hte))
          have tb : (((e.yesN 0 m).log.getD i default).1 == (e.yesN 0 m).term) = false := by simpa using hte
          have HI := Lib.hid hi
          clear hte hi
          generalize ((e.yesN 0 m).log.getD i default).1 = xt at *
          go_quiet (fail)
          go_upto_region 17 with fail
          have AF := Lib.hid (show AnsW ((w.alloc (.cells #[.pointer (some ⟨p, 0, none⟩)] 31)).alloc (.cells (mArr m ea en ec r) 46)) w.heap.size base p (.slice (some ⟨b, off, none⟩) e.log.length lc) ov tv os (mArr m ea en ec r) (e.yesN 0 m).commits (w9.drewN nq) by rw [hG.out]; exact A9.out.below (below_drewN' w9 nq))
          generalize w9.drewN nq = wF at *
          clear x0 f1 f3 f4
          have gx := (cell_of AF.out.b0 0 (v := .pointer (some ⟨p, 0, none⟩)) rfl).1
          have hnk : (((e.yesN 0 m).commits).pr 0).next = k + 1 := by rw [(commits_out _).2.2.2]; exact HNK.out
          have gn := (cell_of AF.out.cat.blk 12 (v := .int .i64 (((e.yesN 0 m).commits).pr 0).next) rfl).1
          rw [hnk] at gn
          have HNX2 := Lib.hid hnk
          clear hnk
          by_cases hle : k + 1 ≤ (e.log.length : Int)
          · have hV3 := Lib.hid (HV2.out.trans (if_pos hle))
            have HCE := Lib.hid (entries_any 0 (by omega) AF.out.cat (by rw [HNX2.out]; omega) (by rw [HNX2.out, (commits_out _).2.2.1]; show k + 1 ≤ (e.log.length : Int) + 1; omega) (by rw [(commits_out _).2.2.1]; exact EOK.out.log) (by rw [(commits_out _).1]; have := HGO.out.1; omega) (by rw [(commits_out _).2.1]; have := HGO.out.2.1; omega))
            go_wp2_with (go_at_call 39; refine HCE.out.mono ?_; rintro e1 wZ ⟨rfl, hU⟩)
            go_end0
            rw [hV3.out]
            exact ⟨rfl, CUpd.below HW.out (CUpd.then (AF.out.mod.mono (fun _ _ e => Or.inl e)) (fun _ hk => .inl hk) hU)⟩
          · have hV3 := Lib.hid (HV2.out.trans (if_neg hle))
            have hle2 : (e.log.length : Int) < k + 1 := by omega
            go_wp2
            go_end0
            rw [hV3.out]
            exact ⟨rfl, CUpd.below HW.out (CUpd.then (AF.out.mod.mono (fun _ _ e => Or.inl e)) (fun _ hk => .inl hk) (AF.out.cat.stay (Below.refl _ _)))⟩
      · have hG := Lib.hid (show (e.yesN 0 m).commits = e.yesN 0 m by unfold Co.commits; rw [if_neg (fun e => hk1 (by rw [HKE.out]; exact e.1))])
        have hk2 : K ≤ (e.yesN 0 m).commit := by omega
        have hk3 : decide ((e.yesN 0 m).commit < K) = false := by simpa using hk2
        clear hk1
        go_quiet (fail)
        go_upto_region 17 with fail
        have AF := Lib.hid (show AnsW ((w.alloc (.cells #[.pointer (some ⟨p, 0, none⟩)] 31)).alloc (.cells (mArr m ea en ec r) 46)) w.heap.size base p (.slice la e.log.length lc) ov tv os (mArr m ea en ec r) (e.yesN 0 m).commits (w9.drewN nq) by rw [hG.out]; exact A9.out.below (below_drewN' w9 nq))
        generalize w9.drewN nq = wF at *
        clear x0 f1 f3 f4
        have gx := (cell_of AF.out.b0 0 (v := .pointer (some ⟨p, 0, none⟩)) rfl).1
        have hnk : (((e.yesN 0 m).commits).pr 0).next = k + 1 := by rw [(commits_out _).2.2.2]; exact HNK.out
        have gn := (cell_of AF.out.cat.blk 12 (v := .int .i64 (((e.yesN 0 m).commits).pr 0).next) rfl).1
        rw [hnk] at gn
        have HNX2 := Lib.hid hnk
        clear hnk
        by_cases hle : k + 1 ≤ (e.log.length : Int)
        · have hV3 := Lib.hid (HV2.out.trans (if_pos hle))
          have HCE := Lib.hid (entries_any 0 (by omega) AF.out.cat (by rw [HNX2.out]; omega) (by rw [HNX2.out, (commits_out _).2.2.1]; show k + 1 ≤ (e.log.length : Int) + 1; omega) (by rw [(commits_out _).2.2.1]; exact EOK.out.log) (by rw [(commits_out _).1]; have := HGO.out.1; omega) (by rw [(commits_out _).2.1]; have := HGO.out.2.1; omega))
          go_wp2_with (go_at_call 39; refine HCE.out.mono ?_; rintro e1 wZ ⟨rfl, hU⟩)
          go_end0
          rw [hV3.out]
          exact ⟨rfl, CUpd.below HW.out (CUpd.then (AF.out.mod.mono (fun _ _ e => Or.inl e)) (fun _ hk => .inl hk) hU)⟩
        · have hV3 := Lib.hid (HV2.out.trans (if_neg hle))
          have hle2 : (e.log.length : Int) < k + 1 := by omega
          go_wp2
          go_end0
          rw [hV3.out]
          exact ⟨rfl, CUpd.below HW.out (CUpd.then (AF.out.mod.mono (fun _ _ e => Or.inl e)) (fun _ hk => .inl hk) (AF.out.cat.stay (Below.refl _ _)))⟩
end Go.Proofs.Ytcleaamjfjnkkaa
