/- A voter is as the document's. -/
import Derived.Test.YtcleaamjfjnkkaaGreatRz5
namespace Go.Proofs.YtcleaamjfjnkkaaGreat
open Go.RowKit Go.Joins

set_option linter.unusedSimpArgs false in
set_option linter.unusedVariables false in
set_option maxHeartbeats 8000000 in
set_option maxRecDepth 100000 in
theorem same_eq {w : World} {base base' p q : Nat} {lv ov tv lv' ov' tv' : Value} {vt : Nat → Bool} {os os' : List RM} {c : Co} (hC : CAt w base p lv ov tv os c) (hR : RAt w base' q lv' ov' tv' vt os' c.dest c) (ok : Ok c) (hr : c.role ≠ 2) (hd : c.dest.length ≤ 100) :
    Calls Tryz.prog 9 #[.pointer (some ⟨p, 0, none⟩), .pointer (some ⟨q, 0, none⟩)] w (RetB true w) := by
  have mixed : Tryz.prog.follows .mixedOrders = true := by kernel_rfl
  obtain ⟨ra, rc, hv, -, -⟩ := own_sl hR.log
  subst hv
  obtain ⟨ta, tc, hv, -, -⟩ := hR.dst.sli EI
  subst hv
  have HC := Lib.hid hC
  have HR := Lib.hid hR
  have HL := Lib.hid ok.log
  have HDL := Lib.hid hd
  have HRO := Lib.hid hr
  have HNW := Lib.hid (And.intro ok.now (fun v hv => (ok.pr v hv).1))
  have HHD : Hid (∀ W, Below w.heap.size w W → W.rangeAt q 1 [.int .u64 c.term, .int .i64 c.voted, .slice ra c.log.length rc]) := fun W hb => by
    have h1 := (hR.toRL.below hb).cells.1
    intro j v hj
    match j, hj with
    | 0, hj => simp at hj; subst hj; exact h1.2.1
    | 1, hj => simp at hj; subst hj; exact h1.2.2.1
    | 2, hj => simp at hj; subst hj; exact h1.2.2.2.1
    | j + 3, hj => simp at hj
  have HLI := Lib.hid (fun W (h : CL W base p lv ov tv c) => line_any (os := os) h ok.log)
  have HLR := Lib.hid (fun W (h : RL W base' q (.slice ra c.log.length rc) ov' (.slice ta c.dest.length tc) vt c) => rline_any h ok.log)
  have hsl : (foldL (c.log.take (cut c.commit c.log.length))).2.2.2.length ≤ maxLen := by
    have h1 := foldL_len c.log (cut c.commit c.log.length) (by unfold cut; omega)
    have := ok.log
    unfold maxLen
    unfold cut at h1 ⊢
    omega
  generalize foldL (c.log.take (cut c.commit c.log.length)) = S at *
  have HSL := Lib.hid hsl
  clear hC hR ok hr hd hsl
  go_enter Tryz.func9, Tryz.ntmps9
  go_upto_region 1 with fail
  refine wp_region_noPanic ?_
  refine wp_region_lim (BelS w) (fun i => decide (i < 57)) (fun i => false) (by kernel_rfl) (by kernel_rfl) (Below.refl _ w).drew (fun HT hS0 => ?_)
  have B0 := Lib.hid (show Below w.heap.size w w.drew from (Below.refl _ w).drew)
  refine tkD HT 0 5 (v := ?_) ?_ ?_
  rotate_left
  · (intro w5 hSw; go_simp; (try with_reducible rfl))
  try simp only [s1, s2, s3]
  refine tkD HT 2 7 (v := ?_) ?_ ?_
  rotate_left
  · (intro w5 hSw; go_simp; (try with_reducible rfl))
  try simp only [s1, s2, s3]
  refine tkD HT 3 8 (v := ?_) ?_ ?_
  rotate_left
  · (intro w5 hSw; go_simp; (try with_reducible rfl))
  try simp only [s1, s2, s3]
  refine tkD HT 4 9 (v := ?_) ?_ ?_
  rotate_left
  · (intro w5 hSw; go_simp; (try with_reducible rfl))
  try simp only [s1, s2, s3]
  refine wpAnyM_takeD HT 5 10 (v := .agg #[.int .u64 c.term, .int .i64 c.voted, .slice ra c.log.length rc]) rfl rfl (by kernel_rfl) (fun _ _ _ h => h) (yieldsIf_load_mid (S := BelS w) (by kernel_rfl) 25 (.tmp 9) rfl q 1 ?_ [.int .u64 c.term, .int .i64 c.voted, .slice ra c.log.length rc] _ (fun w5 hSw => HHD.out _ (show Below w.heap.size w w5 from hSw)) Tryz.underlying25 rfl (by kernel_rfl)) (by assumption) ?_
  · rfl
  try simp only [s1, s2, s3]
  refine tkS 1 (fun K5 hK => ?_)
  go_simp
  go_at_call 34
  refine (hard_any (HC.out.toCL.below B0.out) HL.out).mono ?_
  rintro e w1 ⟨ah, ch, rfl, hoh, hbh⟩
  have O1 := Lib.hid hoh
  have B1 := Lib.hid (grew_trans B0.out hbh)
  clear hoh hbh
  dsimp only
  refine hK.out _ _ B1.out (fun hS1 => ?_)
  clear hK K5 hS1
  try simp only [Act.put, s1, s2, s3]
  refine tkS 6 (fun K5 hK => ?_)
  go_simp
  go_at_call 33
  refine (hard_eq c.term c.voted ah ra c.log.length ch rc c.log rfl (own_slx O1.out).ents (own_slx (HR.out.toRL.below B1.out).log).ents (by have := HL.out; omega)).mono ?_
  rintro e w2 ⟨rfl, hb⟩
  have B2 := Lib.hid (grew_trans B1.out hb)
  clear hb
  dsimp only
  refine hK.out _ _ B2.out (fun hS1 => ?_)
  clear hK K5 hS1
  try simp only [Act.put, s1, s2, s3]
  refine tkD HT 7 12 (v := ?_) ?_ ?_
  rotate_left
  · (intro w5 hSw; go_simp; (try with_reducible rfl))
  try simp only [s1, s2, s3]
  refine tkD HT 8 13 (v := ?_) ?_ ?_
  rotate_left
  · (intro w5 hSw; go_simp; (try with_reducible rfl))
  try simp only [s1, s2, s3]
  refine tkD HT 10 15 (v := ?_) ?_ ?_
  rotate_left
  · (intro w5 hSw; go_simp; (try with_reducible rfl))
  try simp only [s1, s2, s3]
  refine tkD HT 11 16 (v := ?_) ?_ ?_
  rotate_left
  · (intro w5 hSw; go_simp; (try with_reducible rfl))
  try simp only [s1, s2, s3]
  refine tkD HT 12 17 (v := ?_) ?_ ?_
  rotate_left
  · (intro w5 hSw; go_simp; (try with_reducible rfl))
  try simp only [s1, s2, s3]
  refine tkD HT 13 18 (v := ?_) ?_ ?_
  rotate_left
  · (intro w5 hSw; have q1 := HR.out.toRL.below (show Below w.heap.size w w5 from hSw); have q2 := q1.cells.1.2.2.2.2.2.1; clear q1; go_simp; (try with_reducible rfl))
  try simp only [s1, s2, s3]
  refine tkS 9 (fun K5 hK => ?_)
  go_simp
  go_at_call 35
  refine (role_any (HC.out.toCL.below B2.out)).mono ?_
  rintro e w6 ⟨rfl, rfl⟩
  dsimp only
  refine hK.out _ _ B2.out (fun hS1 => ?_)
  clear hK K5 hS1
  try simp only [Act.put, s1, s2, s3]
  refine tkD HT 14 19 (v := ?_) ?_ ?_
  rotate_left
  · (intro w5 hSw; go_simp; (try with_reducible rfl))
  try simp only [s1, s2, s3]
  refine tkD HT 15 20 (v := ?_) ?_ ?_
  rotate_left
  · (intro w5 hSw; go_simp; (try with_reducible rfl))
  try simp only [s1, s2, s3]
  refine tkD HT 16 21 (v := ?_) ?_ ?_
  rotate_left
  · (intro w5 hSw; go_simp; (try with_reducible rfl))
  try simp only [s1, s2, s3]
  refine tkD HT 17 22 (v := ?_) ?_ ?_
  rotate_left
  · (intro w5 hSw; go_simp; (try with_reducible rfl))
  try simp only [s1, s2, s3]
  refine tkD HT 19 24 (v := ?_) ?_ ?_
  rotate_left
  · (intro w5 hSw; go_simp; (try with_reducible rfl))
  try simp only [s1, s2, s3]
  refine tkD HT 20 25 (v := ?_) ?_ ?_
  rotate_left
  · (intro w5 hSw; go_simp; (try with_reducible rfl))
  try simp only [s1, s2, s3]
  refine tkD HT 21 26 (v := ?_) ?_ ?_
  rotate_left
  · (intro w5 hSw; go_simp; (try with_reducible rfl))
  try simp only [s1, s2, s3]
  refine tkD HT 22 27 (v := ?_) ?_ ?_
  rotate_left
  · (intro w5 hSw; have q1 := HR.out.toRL.below (show Below w.heap.size w w5 from hSw); have q2 := q1.cells.1.2.2.2.2.2.2.1; clear q1; go_simp; (try with_reducible rfl))
  try simp only [s1, s2, s3]
  refine tkS 18 (fun K5 hK => ?_)
  go_simp
  go_at_call 36
  refine (head_any (HC.out.toCL.below B2.out)).mono ?_
  rintro e w6 ⟨rfl, rfl⟩
  dsimp only
  refine hK.out _ _ B2.out (fun hS1 => ?_)
  clear hK K5 hS1
  try simp only [Act.put, s1, s2, s3]
  refine tkD HT 23 28 (v := ?_) ?_ ?_
  rotate_left
  · (intro w5 hSw; go_simp; (try with_reducible rfl))
  try simp only [s1, s2, s3]
  refine tkD HT 24 29 (v := ?_) ?_ ?_
  rotate_left
  · (intro w5 hSw; go_simp; (try with_reducible rfl))
  try simp only [s1, s2, s3]
  refine tkD HT 25 30 (v := ?_) ?_ ?_
  rotate_left
  · (intro w5 hSw; go_simp; (try with_reducible rfl))
  try simp only [s1, s2, s3]
  refine tkD HT 26 31 (v := ?_) ?_ ?_
  rotate_left
  · (intro w5 hSw; go_simp; (try with_reducible rfl))
  try simp only [s1, s2, s3]
  refine tkD HT 28 33 (v := ?_) ?_ ?_
  rotate_left
  · (intro w5 hSw; go_simp; (try with_reducible rfl))
  try simp only [s1, s2, s3]
  refine tkD HT 29 34 (v := ?_) ?_ ?_
  rotate_left
  · (intro w5 hSw; go_simp; (try with_reducible rfl))
  try simp only [s1, s2, s3]
  refine tkD HT 30 35 (v := ?_) ?_ ?_
  rotate_left
  · (intro w5 hSw; go_simp; (try with_reducible rfl))
  try simp only [s1, s2, s3]
  refine tkD HT 31 36 (v := ?_) ?_ ?_
  rotate_left
  · (intro w5 hSw; have q1 := HR.out.toRL.below (show Below w.heap.size w w5 from hSw); have q2 := q1.cells.1.2.2.2.2.1; clear q1; go_simp; (try with_reducible rfl))
  try simp only [s1, s2, s3]
  refine tkS 27 (fun K5 hK => ?_)
  go_simp
  go_at_call 37
  refine (commit_any (HC.out.toCL.below B2.out)).mono ?_
  rintro e w6 ⟨rfl, rfl⟩
  dsimp only
  refine hK.out _ _ B2.out (fun hS1 => ?_)
  clear hK K5 hS1
  try simp only [Act.put, s1, s2, s3]
  refine tkD HT 32 37 (v := ?_) ?_ ?_
  rotate_left
  · (intro w5 hSw; go_simp; (try with_reducible rfl))
  try simp only [s1, s2, s3]
  refine tkD HT 33 38 (v := ?_) ?_ ?_
  rotate_left
  · (intro w5 hSw; go_simp; (try with_reducible rfl))
  try simp only [s1, s2, s3]
  refine tkD HT 34 39 (v := ?_) ?_ ?_
  rotate_left
  · (intro w5 hSw; go_simp; (try with_reducible rfl))
  try simp only [s1, s2, s3]
  refine tkD HT 35 40 (v := ?_) ?_ ?_
  rotate_left
  · (intro w5 hSw; go_simp; (try with_reducible rfl))
  try simp only [s1, s2, s3]
  refine tkD HT 37 42 (v := ?_) ?_ ?_
  rotate_left
  · (intro w5 hSw; go_simp; (try with_reducible rfl))
  try simp only [s1, s2, s3]
  refine tkS 36 (fun K5 hK => ?_)
  go_simp
  go_at_call 39
  refine (HLI.out _ (HC.out.toCL.below B2.out)).mono ?_
  rintro e w9a ⟨lva, rfl, hga, hba⟩
  have Ga := Lib.hid hga
  have B3 := Lib.hid (grew_trans B2.out hba)
  have HXa := Lib.hid hba
  clear hga hba
  obtain ⟨gaa, gca, hlv, hgda⟩ := own_gids Ga.out
  subst hlv
  have Da := Lib.hid hgda
  clear hgda
  dsimp only
  refine hK.out _ _ B3.out (fun hS1 => ?_)
  clear hK K5 hS1
  try simp only [Act.put, s1, s2, s3]
  refine tkS 38 (fun K5 hK => ?_)
  go_simp
  go_at_call 40
  refine (HLR.out _ (HR.out.toRL.below B3.out)).mono ?_
  rintro e w9b ⟨lvb, rfl, hgb, hbb⟩
  have Gb := Lib.hid hgb
  have B4 := Lib.hid (grew_trans B3.out hbb)
  have HXb := Lib.hid hbb
  clear hgb hbb
  obtain ⟨gab, gcb, hlv, hgdb⟩ := own_gids Gb.out
  subst hlv
  have Db := Lib.hid hgdb
  clear hgdb
  dsimp only
  refine hK.out _ _ B4.out (fun hS1 => ?_)
  clear hK K5 hS1
  try simp only [Act.put, s1, s2, s3]
  refine tkS 39 (fun K5 hK => ?_)
  go_simp
  go_at_call 38
  refine (lines_any _ _ _ _ _ _ _ _ gaa gab gca gcb _ (gids_below Da.out.1 HXb.out) Db.out.1 HSL.out).mono ?_
  rintro e w10 ⟨rfl, hb⟩
  have B5 := Lib.hid (grew_trans B4.out hb)
  clear hb
  rw [show eqL (S.1, S.2.1, S.2.2.1, S.2.2.2) (S.1, S.2.1, S.2.2.1, S.2.2.2) = true by simp [eqL]]
  dsimp only
  refine hK.out _ _ B5.out (fun hS1 => ?_)
  clear hK K5 hS1
  try simp only [Act.put, s1, s2, s3]
  refine tkD HT 40 45 (v := ?_) ?_ ?_
  rotate_left
  · (intro w5 hSw; go_simp; (try with_reducible rfl))
  try simp only [s1, s2, s3]
  refine tkD HT 41 46 (v := ?_) ?_ ?_
  rotate_left
  · (intro w5 hSw; go_simp; (try with_reducible rfl))
  try simp only [s1, s2, s3]
  refine tkD HT 42 47 (v := ?_) ?_ ?_
  rotate_left
  · (intro w5 hSw; go_simp; (try with_reducible rfl))
  try simp only [s1, s2, s3]
  refine tkD HT 44 49 (v := ?_) ?_ ?_
  rotate_left
  · (intro w5 hSw; go_simp; (try with_reducible rfl))
  try simp only [s1, s2, s3]
  refine tkS 43 (fun K5 hK => ?_)
  go_simp
  go_at_call 41
  refine (cuntil_any (HC.out.toCL.below B5.out) HNW.out.1 HNW.out.2).mono ?_
  rintro e w11 ⟨rfl, hb⟩
  have B6 := Lib.hid (grew_trans B5.out hb)
  clear hb
  dsimp only
  refine hK.out _ _ B6.out (fun hS1 => ?_)
  clear hK K5 hS1
  try simp only [Act.put, s1, s2, s3]
  refine tkS 45 (fun K5 hK => ?_)
  go_simp
  go_at_call 42
  refine (rcuntil_any (HR.out.toRL.below B6.out) HRO.out).mono ?_
  rintro e w12 ⟨rfl, rfl⟩
  dsimp only
  refine hK.out _ _ B6.out (fun hS1 => ?_)
  clear hK K5 hS1
  try simp only [Act.put, s1, s2, s3]
  refine tkD HT 46 51 (v := ?_) ?_ ?_
  rotate_left
  · (intro w5 hSw; go_simp; (try with_reducible rfl))
  try simp only [s1, s2, s3]
  refine tkD HT 47 52 (v := ?_) ?_ ?_
  rotate_left
  · (intro w5 hSw; go_simp; (try with_reducible rfl))
  try simp only [s1, s2, s3]
  refine tkD HT 48 53 (v := ?_) ?_ ?_
  rotate_left
  · (intro w5 hSw; go_simp; (try with_reducible rfl))
  try simp only [s1, s2, s3]
  refine tkD HT 49 54 (v := ?_) ?_ ?_
  rotate_left
  · (intro w5 hSw; go_simp; (try with_reducible rfl))
  try simp only [s1, s2, s3]
  refine tkD HT 51 56 (v := ?_) ?_ ?_
  rotate_left
  · (intro w5 hSw; go_simp; (try with_reducible rfl))
  try simp only [s1, s2, s3]
  refine tkD HT 52 57 (v := ?_) ?_ ?_
  rotate_left
  · (intro w5 hSw; go_simp; (try with_reducible rfl))
  try simp only [s1, s2, s3]
  refine tkD HT 53 58 (v := ?_) ?_ ?_
  rotate_left
  · (intro w5 hSw; go_simp; (try with_reducible rfl))
  try simp only [s1, s2, s3]
  refine tkD HT 54 59 (v := ?_) ?_ ?_
  rotate_left
  · (intro w5 hSw; have q1 := HR.out.toRL.below (show Below w.heap.size w w5 from hSw); have q2 := q1.cells.1.2.2.2.2.2.2.2.2.2.2.2.2; clear q1; go_simp; (try with_reducible rfl))
  try simp only [s1, s2, s3]
  refine tkS 50 (fun K5 hK => ?_)
  go_simp
  go_at_call 44
  refine (to_any (HC.out.below B6.out) HDL.out).mono ?_
  rintro e w13 ⟨tvv, rfl, ho, hb⟩
  obtain ⟨a5, cap5, hv5, hs5, -⟩ := ho.sli EI
  subst hv5
  have O5 := Lib.hid hs5
  have B7 := Lib.hid (grew_trans B6.out hb)
  clear ho hb hs5
  dsimp only
  refine hK.out _ _ B7.out (fun hS1 => ?_)
  clear hK K5 hS1
  try simp only [Act.put, s1, s2, s3]
  refine tkS 55 (fun K5 hK => ?_)
  go_simp
  go_at_call 43
  refine (ints_any c.dest c.dest a5 ta cap5 tc _ O5.out.lst (OwnL.slix EI (HR.out.below B7.out).dst).lst (Nat.le_trans HDL.out (by omega))).mono ?_
  rintro e w14 ⟨rfl, nq, rfl⟩
  have B8 := Lib.hid (grew_trans B7.out (below_drewN' _ nq))
  rw [show decide (c.dest = c.dest) = true by simp]
  dsimp only
  refine hK.out _ _ B8.out (fun hS1 => ?_)
  clear hK K5 hS1
  try simp only [Act.put, s1, s2, s3]
  refine tkD HT 56 61 (v := ?_) ?_ ?_
  rotate_left
  · (intro w5 hSw; go_simp; (try with_reducible rfl))
  try simp only [s1, s2, s3]
  refine tkL 57 (fun K5 hK => ?_)
  go_simp
  refine hK.out _ _ ?_
  clear hK K5
  try simp only [Act.put, s1, s2, s3]
  refine wpAnyM_done (by kernel_rfl) (NoPanic.normal ?_)
  go_wp2
  go_ret
  exact retB rfl B8.out
end Go.Proofs.YtcleaamjfjnkkaaGreat
