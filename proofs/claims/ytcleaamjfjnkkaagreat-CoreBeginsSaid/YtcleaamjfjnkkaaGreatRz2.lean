/- The reference sends. -/
import Derived.Test.YtcleaamjfjnkkaaGreatRz1
namespace Go.Proofs.YtcleaamjfjnkkaaGreat
open Go.RowKit Go.Joins

section
variable {w w' V V' : World} {base q : Nat} {lv ov tv v1 : Value} {vt : Nat → Bool} {os os2 : List RM} {ds ds2 : List Int} {c : Co}
/-- behind the reference's send. -/
def RSn (base q : Nat) (lv ov tv : Value) (vt : Nat → Bool) (os : List RM) (ds : List Int) (c : Co) (w w' : World) : Prop := ∃ ov' tv', RAt w' base q lv ov' tv' vt os ds c ∧ Mod (RF q lv ov tv) w w' ∧ ∀ k, RF q lv ov' tv' k → RF q lv ov tv k ∨ w.heap.size ≤ k
theorem RAt.grow1 (h : RAt V base q lv ov tv vt os ds c) (ho : OwnL encM 26 63 V' base v1 os2) (hg : V.grownBy V' ov.ownBlock) (hf : ∀ g, v1.ownBlock = some g → ov.ownBlock = some g ∨ V.heap.size ≤ g) :
    V'.heap[q]? = some (.cells (rcA c vt lv ov tv) 53 (0, 0)) ∧ RAt (V'.setCell ⟨q, 29, none⟩ v1) base q lv v1 tv vt os2 ds c ∧ Mod (RF q lv ov tv) V (V'.setCell ⟨q, 29, none⟩ v1) ∧ ∀ k, RF q lv v1 tv k → RF q lv ov tv k ∨ V.heap.size ≤ k := by
  have hm : Mod (fun k => ov.ownBlock = some k) V V' := Mod.grown hg (fun k e => e)
  obtain ⟨n1, n2, n3⟩ := h.nots
  have hblk := hm.heap h.blk n2
  have hM : Mod (fun k => k = q) V' (V'.setCell ⟨q, 29, none⟩ v1) := Mod.cellOf q 29 v1
  have hn : v1.ownBlock ≠ some q := ownR_not ho hblk (fun cs e => by simp at e)
  refine ⟨hblk, { blk := by rw [setCell_blk hblk]; rfl, bp := h.bp, log := hM.own (hm.own h.log (fun g hg e => (h.apart.1 g hg).1 e)) (fun g hg e => n1 (e ▸ hg)), out := hM.own ho (fun g hg e => hn (e ▸ hg)), dst := hM.own (hm.own h.dst (fun g hg e => h.apart.2 g e hg)) (fun g hg e => n3 (e ▸ hg)) }, (hm.mono (fun _ _ e => .inr (.inr (.inl e)))).then hM (fun i _ e => .inl e), ?_⟩
  rintro k (d | d | d | d)
  · exact .inl (.inl d)
  · exact .inl (.inr (.inl d))
  · exact (hf k d).imp (fun e => .inr (.inr (.inl e))) id
  · exact .inl (.inr (.inr (.inr d)))
theorem RAt.grow2 (h : RAt V base q lv ov tv vt os ds c) (ho : OwnL encI 1 3 V' base v1 ds2) (hg : V.grownBy V' tv.ownBlock) (hf : ∀ g, v1.ownBlock = some g → tv.ownBlock = some g ∨ V.heap.size ≤ g) :
    V'.heap[q]? = some (.cells (rcA c vt lv ov tv) 53 (0, 0)) ∧ RAt (V'.setCell ⟨q, 30, none⟩ v1) base q lv ov v1 vt os ds2 c ∧ Mod (RF q lv ov tv) V (V'.setCell ⟨q, 30, none⟩ v1) ∧ ∀ k, RF q lv ov v1 k → RF q lv ov tv k ∨ V.heap.size ≤ k := by
  have hm : Mod (fun k => tv.ownBlock = some k) V V' := Mod.grown hg (fun k e => e)
  obtain ⟨n1, n2, n3⟩ := h.nots
  have hblk := hm.heap h.blk n3
  have hM : Mod (fun k => k = q) V' (V'.setCell ⟨q, 30, none⟩ v1) := Mod.cellOf q 30 v1
  have hn : v1.ownBlock ≠ some q := ownR_not ho hblk (fun cs e => by simp at e)
  refine ⟨hblk, { blk := by rw [setCell_blk hblk]; rfl, bp := h.bp, log := hM.own (hm.own h.log (fun g hg e => (h.apart.1 g hg).2 e)) (fun g hg e => n1 (e ▸ hg)), out := hM.own (hm.own h.out (fun g hg e => h.apart.2 g hg e)) (fun g hg e => n2 (e ▸ hg)), dst := hM.own ho (fun g hg e => hn (e ▸ hg)) }, (hm.mono (fun _ _ e => .inr (.inr (.inr e)))).then hM (fun i _ e => .inl e), ?_⟩
  rintro k (d | d | d | d)
  · exact .inl (.inl d)
  · exact .inl (.inr (.inl d))
  · exact .inl (.inr (.inr (.inl d)))
  · exact (hf k d).imp (fun e => .inr (.inr (.inr e))) id
theorem RSn.then {ov1 tv1 : Value} (hm : Mod (RF q lv ov tv) w w') (hf : ∀ k, RF q lv ov1 tv1 k → RF q lv ov tv k ∨ w.heap.size ≤ k) (h2 : RSn base q lv ov1 tv1 vt os ds c w' V) : RSn base q lv ov tv vt os ds c w V := by
  obtain ⟨ov', tv', k1, k2, k3⟩ := h2
  refine ⟨ov', tv', k1, hm.then k2 (fun i hi hc => ?_), fun k hk => ?_⟩
  · rcases hf i hc with d | d
    · exact d
    · omega
  · rcases k3 k hk with d | d
    · exact hf k d
    · exact .inr (Nat.le_trans hm.size d)
end
def RsS (q nb : Nat) (ov : Value) (x : RM) (w' : World) : Prop := w'.cell? ⟨q, 29, none⟩ = some ov ∧ Boxed nb x x.m.term w'
theorem rsS {w w' : World} {base q nb : Nat} {lv ov tv : Value} {vt : Nat → Bool} {c : Co} {x : RM} (h : RL w base q lv ov tv vt c) (hb : Boxed nb x x.m.term w) (bel : Below w.heap.size w w') : RsS q nb ov x w' := ⟨((h.below bel).cells).1.2.2.2.2.2.2.2.2.2.2.2.1, hb.below bel⟩
theorem rsS1 {w : World} {q nb : Nat} {lv ov tv : Value} {vt : Nat → Bool} {c : Co} {x : RM} (h : w.heap[q]? = some (.cells (rcA c vt lv ov tv) 53 (0, 0))) (hb : Boxed nb x x.m.term w) : RsS q nb ov x w := ⟨(cell_of h 29 rfl).1, hb⟩
set_option linter.unusedSimpArgs false in
set_option linter.unusedVariables false in
set_option maxHeartbeats 16000000 in
set_option maxRecDepth 100000 in
theorem rsend_any {w : World} {base q : Nat} {lv ov tv : Value} {vt : Nat → Bool} {os : List RM} {ds : List Int} {c : Co} (t : Int) (x : RM) (h : RAt w base q lv ov tv vt os ds c) (hl : os.length ≤ 100) (hd : ds.length ≤ 100) :
    Calls Tryz.prog 32 #[.pointer (some ⟨q, 0, none⟩), .int .i64 t, .agg #[.int .i64 x.m.kind, .int .u64 x.m.term, .int .i64 x.m.prev, .int .u64 x.m.pterm, .slice x.ea x.m.ents.length x.ec, .int .i64 x.m.commit, .bool x.m.yes, .int .i64 x.m.mat, .int .i64 x.m.stamp, .int .u64 0, .int .i64 0, .bool false, .slice none 0 0, .int .i64 0, .int .u64 0, .int .u64 0, .int .u64 0, .int .u64 0, .int .i64 0, .int .u64 0, .int .u64 0, .int .u64 0, .int .u64 0, .int .i64 0, .int .i64 0, .slice none 0 0]] w (Tup0 (RSn base q lv ov tv vt (os ++ [x]) (ds ++ [t]) c w)) := by
  have HW0 := Lib.hid (bel1 w (.cells #[.int .i64 x.m.kind, .int .u64 x.m.term, .int .i64 x.m.prev, .int .u64 x.m.pterm, .slice x.ea x.m.ents.length x.ec, .int .i64 x.m.commit, .bool x.m.yes, .int .i64 x.m.mat, .int .i64 x.m.stamp, .int .u64 0, .int .i64 0, .bool false, .slice none 0 0, .int .i64 0, .int .u64 0, .int .u64 0, .int .u64 0, .int .u64 0, .int .i64 0, .int .u64 0, .int .u64 0, .int .u64 0, .int .u64 0, .int .i64 0, .int .i64 0, .slice none 0 0] 63))
  have HC := Lib.hid (h.below HW0.out)
  have B0 := Lib.hid (show Boxed w.heap.size x x.m.term (w.alloc (.cells #[.int .i64 x.m.kind, .int .u64 x.m.term, .int .i64 x.m.prev, .int .u64 x.m.pterm, .slice x.ea x.m.ents.length x.ec, .int .i64 x.m.commit, .bool x.m.yes, .int .i64 x.m.mat, .int .i64 x.m.stamp, .int .u64 0, .int .i64 0, .bool false, .slice none 0 0, .int .i64 0, .int .u64 0, .int .u64 0, .int .u64 0, .int .u64 0, .int .i64 0, .int .u64 0, .int .u64 0, .int .u64 0, .int .u64 0, .int .i64 0, .int .i64 0, .slice none 0 0] 63)) from heap_alloc_new w _)
  have HLT := Lib.hid (show ∀ k, RF q lv ov tv k → k < (w.alloc (.cells #[.int .i64 x.m.kind, .int .u64 x.m.term, .int .i64 x.m.prev, .int .u64 x.m.pterm, .slice x.ea x.m.ents.length x.ec, .int .i64 x.m.commit, .bool x.m.yes, .int .i64 x.m.mat, .int .i64 x.m.stamp, .int .u64 0, .int .i64 0, .bool false, .slice none 0 0, .int .i64 0, .int .u64 0, .int .u64 0, .int .u64 0, .int .u64 0, .int .i64 0, .int .u64 0, .int .u64 0, .int .u64 0, .int .u64 0, .int .i64 0, .int .i64 0, .slice none 0 0] 63)).heap.size ∧ k ≠ w.heap.size from fun k hk => by have := (h.lt k hk).2; simp; omega)
  clear h
  go_enter Tryz.func32, Tryz.ntmps32
  go_upto_region 1 with fail
  generalize w.alloc (.cells #[.int .i64 x.m.kind, .int .u64 x.m.term, .int .i64 x.m.prev, .int .u64 x.m.pterm, .slice x.ea x.m.ents.length x.ec, .int .i64 x.m.commit, .bool x.m.yes, .int .i64 x.m.mat, .int .i64 x.m.stamp, .int .u64 0, .int .i64 0, .bool false, .slice none 0 0, .int .i64 0, .int .u64 0, .int .u64 0, .int .u64 0, .int .u64 0, .int .i64 0, .int .u64 0, .int .u64 0, .int .u64 0, .int .u64 0, .int .i64 0, .int .i64 0, .slice none 0 0] 63) = Y at *
  generalize hnb : w.heap.size = nb at B0 HLT ⊢
  generalize Value.agg #[.int .i64 x.m.kind, .int .u64 x.m.term, .int .i64 x.m.prev, .int .u64 x.m.pterm, .slice x.ea x.m.ents.length x.ec, .int .i64 x.m.commit, .bool x.m.yes, .int .i64 x.m.mat, .int .i64 x.m.stamp, .int .u64 0, .int .i64 0, .bool false, .slice none 0 0, .int .i64 0, .int .u64 0, .int .u64 0, .int .u64 0, .int .u64 0, .int .i64 0, .int .u64 0, .int .u64 0, .int .u64 0, .int .u64 0, .int .i64 0, .int .i64 0, .slice none 0 0] = pv
  have HNB := Lib.hid hnb
  clear hnb
  refine wp_region_noPanic ?_
  refine wp_region_lim (RsS q nb ov x) (fun i => decide (i < 8) && decide (i ≠ 0)) (fun i => decide (i = 0)) (by kernel_rfl) (by kernel_rfl) (rsS HC.out.toRL B0.out (Below.refl _ _).drew) (fun HT hS0 => ?_)
  refine tkF 0 6 (v := ?_) ?_ ?_
  rotate_left
  · (intro w5 hSw; go_simp; (try with_reducible rfl))
  try simp only [s1, s2, s3]
  refine tkD HT 1 7 (v := ?_) ?_ ?_
  rotate_left
  · (intro w5 hSw; obtain ⟨q1, q3⟩ := hSw; clear q3; go_simp; (try with_reducible rfl))
  try simp only [s1, s2, s3]
  refine tkD HT 2 8 (v := ?_) ?_ ?_
  rotate_left
  · (intro w5 hSw; obtain ⟨q1, q3⟩ := hSw; clear q3; go_simp; (try with_reducible rfl))
  try simp only [s1, s2, s3]
  refine tkD HT 3 9 (v := ?_) ?_ ?_
  rotate_left
  · (intro w5 hSw; obtain ⟨q1, q3⟩ := hSw; clear q3; go_simp; (try with_reducible rfl))
  try simp only [s1, s2, s3]
  refine tkD HT 4 10 (v := ?_) ?_ ?_
  rotate_left
  · (intro w5 hSw; obtain ⟨q1, q3⟩ := hSw; clear q3; go_simp; (try with_reducible rfl))
  try simp only [s1, s2, s3]
  refine tkD HT 5 11 (v := ?_) ?_ ?_
  rotate_left
  · (intro w5 hSw; obtain ⟨q1, q3⟩ := hSw; have q4 := q3; unfold Boxed at q4; refine exec_load_row 63 (.tmp 5) ?_ nb ?_ 63 _ (0, 0) _ q4 Tryz.underlying63 rfl ?_; rfl; rfl; kernel_rfl)
  try simp only [s1, s2, s3]
  refine tkS 6 (fun K5 hK => ?_)
  go_simp
  refine hK.out _ _ (rsS HC.out.toRL B0.out ((Below.refl _ Y).drew.trans ((bel1 Y.drew (.cells #[.int .i64 x.m.kind, .int .u64 x.m.term, .int .i64 x.m.prev, .int .u64 x.m.pterm, .slice x.ea x.m.ents.length x.ec, .int .i64 x.m.commit, .bool x.m.yes, .int .i64 x.m.mat, .int .i64 x.m.stamp, .int .u64 0, .int .i64 0, .bool false, .slice none 0 0, .int .i64 0, .int .u64 0, .int .u64 0, .int .u64 0, .int .u64 0, .int .i64 0, .int .u64 0, .int .u64 0, .int .u64 0, .int .u64 0, .int .i64 0, .int .i64 0, .slice none 0 0] 63)).mono (by simp)))) (fun hS1 => ?_)
  clear hK K5
  try simp only [Act.put, s1, s2, s3]
  have l1 : Lst encM 26 (World.drew (World.alloc Y (.cells #[.int .i64 x.m.kind, .int .u64 x.m.term, .int .i64 x.m.prev, .int .u64 x.m.pterm, .slice x.ea x.m.ents.length x.ec, .int .i64 x.m.commit, .bool x.m.yes, .int .i64 x.m.mat, .int .i64 x.m.stamp, .int .u64 0, .int .i64 0, .bool false, .slice none 0 0, .int .i64 0, .int .u64 0, .int .u64 0, .int .u64 0, .int .u64 0, .int .i64 0, .int .u64 0, .int .u64 0, .int .u64 0, .int .u64 0, .int .i64 0, .int .i64 0, .slice none 0 0] 63))) (some ⟨Y.heap.size, 0, none⟩) [x] := lit1 Y.drew x
  have gl1 : Below Y.heap.size Y (World.drew (World.alloc Y (.cells #[.int .i64 x.m.kind, .int .u64 x.m.term, .int .i64 x.m.prev, .int .u64 x.m.pterm, .slice x.ea x.m.ents.length x.ec, .int .i64 x.m.commit, .bool x.m.yes, .int .i64 x.m.mat, .int .i64 x.m.stamp, .int .u64 0, .int .i64 0, .bool false, .slice none 0 0, .int .i64 0, .int .u64 0, .int .u64 0, .int .u64 0, .int .u64 0, .int .i64 0, .int .u64 0, .int .u64 0, .int .u64 0, .int .u64 0, .int .i64 0, .int .i64 0, .slice none 0 0] 63))) := (Below.refl _ Y).drew.trans (bel1 Y.drew (.cells #[.int .i64 x.m.kind, .int .u64 x.m.term, .int .i64 x.m.prev, .int .u64 x.m.pterm, .slice x.ea x.m.ents.length x.ec, .int .i64 x.m.commit, .bool x.m.yes, .int .i64 x.m.mat, .int .i64 x.m.stamp, .int .u64 0, .int .i64 0, .bool false, .slice none 0 0, .int .i64 0, .int .u64 0, .int .u64 0, .int .u64 0, .int .u64 0, .int .i64 0, .int .u64 0, .int .u64 0, .int .u64 0, .int .u64 0, .int .i64 0, .int .i64 0, .slice none 0 0] 63))
  have m1 : RAt (World.drew (World.alloc Y (.cells #[.int .i64 x.m.kind, .int .u64 x.m.term, .int .i64 x.m.prev, .int .u64 x.m.pterm, .slice x.ea x.m.ents.length x.ec, .int .i64 x.m.commit, .bool x.m.yes, .int .i64 x.m.mat, .int .i64 x.m.stamp, .int .u64 0, .int .i64 0, .bool false, .slice none 0 0, .int .i64 0, .int .u64 0, .int .u64 0, .int .u64 0, .int .u64 0, .int .i64 0, .int .u64 0, .int .u64 0, .int .u64 0, .int .u64 0, .int .i64 0, .int .i64 0, .slice none 0 0] 63))) base q lv ov tv vt os ds c := HC.out.below gl1
  have b1 : Boxed nb x x.m.term (World.drew (World.alloc Y (.cells #[.int .i64 x.m.kind, .int .u64 x.m.term, .int .i64 x.m.prev, .int .u64 x.m.pterm, .slice x.ea x.m.ents.length x.ec, .int .i64 x.m.commit, .bool x.m.yes, .int .i64 x.m.mat, .int .i64 x.m.stamp, .int .u64 0, .int .i64 0, .bool false, .slice none 0 0, .int .i64 0, .int .u64 0, .int .u64 0, .int .u64 0, .int .u64 0, .int .i64 0, .int .u64 0, .int .u64 0, .int .u64 0, .int .u64 0, .int .i64 0, .int .i64 0, .slice none 0 0] 63))) := B0.out.below gl1
  generalize (World.drew (World.alloc Y (.cells #[.int .i64 x.m.kind, .int .u64 x.m.term, .int .i64 x.m.prev, .int .u64 x.m.pterm, .slice x.ea x.m.ents.length x.ec, .int .i64 x.m.commit, .bool x.m.yes, .int .i64 x.m.mat, .int .i64 x.m.stamp, .int .u64 0, .int .i64 0, .bool false, .slice none 0 0, .int .i64 0, .int .u64 0, .int .u64 0, .int .u64 0, .int .u64 0, .int .i64 0, .int .u64 0, .int .u64 0, .int .u64 0, .int .u64 0, .int .i64 0, .int .i64 0, .slice none 0 0] 63))) = V1 at *
  have l1' := Lib.hid l1
  have g1' := Lib.hid gl1
  have m1' := Lib.hid m1
  have b1' := Lib.hid b1
  clear l1 gl1 m1 b1
  refine tkS 7 (fun K5 hK => ?_)
  refine step_app EM TM rfl (.tmp 10) (.tmp 12) rfl rfl m1'.out.out (some ⟨Y.heap.size, 0, none⟩) 1 1 [x] rfl rfl l1'.out (by simp) (show (os.length + 1) * 256 ≤ 140737488355328 by omega) (show os.length + 1 ≤ maxLen by unfold maxLen; omega) (by have := m1'.out.toRL.lt.1; omega) ?_
  intro v1 w1 ho hg hf
  have G1 := Lib.hid (m1'.out.grow1 ho hg hf)
  have B2 := Lib.hid (b1'.out.grow hg (fun e => (HLT.out nb (.inr (.inr (.inl e)))).2 rfl))
  refine hK.out _ _ (rsS1 G1.out.1 B2.out) (fun hS1 => ?_)
  clear hK K5 ho hg hf
  try simp only [Act.put, s1, s2, s3]
  have z1 := (cell_of G1.out.1 29 rfl).1
  have z2 := (cell_of G1.out.1 29 (v := ov) rfl).2
  obtain ⟨sa1, sc1, hv1, -, -⟩ := G1.out.2.1.out.sli EM
  simp only [List.length_append, List.length_singleton] at hv1
  subst hv1
  refine tkL 8 (fun K5 hK => ?_)
  go_simp
  refine hK.out _ _ ?_
  clear hK K5
  try simp only [Act.put, s1, s2, s3]
  refine tkL 9 (fun K5 hK => ?_)
  go_simp
  refine hK.out _ _ ?_
  clear hK K5
  try simp only [Act.put, s1, s2, s3]
  refine tkL 10 (fun K5 hK => ?_)
  go_simp
  refine hK.out _ _ ?_
  clear hK K5
  try simp only [Act.put, s1, s2, s3]
  refine wpAnyM_done (by kernel_rfl) (NoPanic.normal ?_)
  have R1 := Lib.hid G1.out.2.1
  have M1 := Lib.hid G1.out.2.2
  clear z1 z2 B2 G1 B0
  generalize w1.setCell ⟨q, 29, none⟩ _ = Z at *
  obtain ⟨ta, tc, htv, -, -⟩ := R1.out.dst.sli EI
  subst htv
  have y1 := R1.out.toRL.cells.1.2.2.2.2.2.2.2.2.2.2.2.2
  have y2 := R1.out.toRL.cells.2 30
  go_wp2_with (at_builtin; refine wpList_app (v := .slice ta ds.length tc) (base := base) EI TI rfl _ _ rfl rfl (R1.out.dst.below (bel1 _ _)) (some ⟨_, 0, none⟩) 1 1 [t] rfl rfl (litI _ _) (fun e => by cases e) (by simp; omega) (by unfold maxLen; simp; omega) (by have := R1.out.toRL.lt.1; simp; omega) ?_; intro v2 w2 ho hg hf; obtain ⟨a2, c2, rfl, -, -⟩ := ho.sli EI; have G2 := Lib.hid ((R1.out.below (bel1 Z (.cells #[.int .i64 t] 3))).grow2 ho hg hf); clear ho hg hf; have x1 := (cell_of G2.out.1 30 (v := .slice ta ds.length tc) rfl).1; have x2 := (cell_of G2.out.1 30 (v := .slice ta ds.length tc) rfl).2)
  go_end0
  refine ⟨rfl, ?_⟩
  obtain ⟨-, g1, g2, g3⟩ := G2.out
  simp only [List.length_append, List.length_singleton] at g1 g2 g3
  exact RSn.then (Mod.bel HW0.out) (fun k hk => .inl hk) (RSn.then (Mod.bel g1'.out) (fun k hk => .inl hk) (RSn.then M1.out.1 M1.out.2 (RSn.then (Mod.bel (bel1 _ _)) (fun k hk => .inl hk) ⟨_, _, g1, g2, g3⟩)))
end Go.Proofs.YtcleaamjfjnkkaaGreat
