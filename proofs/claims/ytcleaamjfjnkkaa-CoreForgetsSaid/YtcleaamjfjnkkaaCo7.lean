/- A campaign. -/
import Derived.Test.YtcleaamjfjnkkaaCo6
namespace Go.Proofs.Ytcleaamjfjnkkaa
open Go.RowKit Go.Joins

def CampT (p bx : Nat) (c : Co) (w' : World) : Prop := w'.cell? ⟨bx, 0, none⟩ = some (.pointer (some ⟨p, 0, none⟩)) ∧ w'.cell? ⟨p, 0, none⟩ = some (.int .i64 c.me) ∧ w'.cell? ⟨p, 10, none⟩ = some (.int .i64 c.now)
theorem CL.campT {w : World} {base p bx : Nat} {lv ov tv : Value} {c d : Co} (h : CL w base p lv ov tv d) (hx : w.cell? ⟨bx, 0, none⟩ = some (.pointer (some ⟨p, 0, none⟩))) (h1 : d.me = c.me) (h2 : d.now = c.now) : CampT p bx c w :=
  ⟨hx, by rw [← h1]; exact h.cells.1.1, by rw [← h2]; exact h.cells.1.2.2.2.2.2.2.2.2.2.2.1⟩
theorem set_other {w : World} {p i j : Nat} {v u : Value} (h : w.cell? ⟨p, j, none⟩ = some u) (hne : i ≠ j) : (w.setCell ⟨p, i, none⟩ v).cell? ⟨p, j, none⟩ = some u := by
  rw [World.cell?_setCell_other (h := fun e => hne (congrArg Addr.off e))]; exact h
theorem campT_set {w : World} {p bx : Nat} {c : Co} {i : Nat} {v : Value} (h : CampT p bx c w) (hb : bx ≠ p) (h1 : i ≠ 0) (h2 : i ≠ 10) : CampT p bx c (w.setCell ⟨p, i, none⟩ v) := by
  obtain ⟨a, b, d⟩ := h
  refine ⟨box_keep a (Mod.cellOf p i v) hb, ?_, ?_⟩
  · exact set_other b (by omega)
  · exact set_other d (by omega)
set_option linter.unusedSimpArgs false in
set_option linter.unusedVariables false in
set_option maxHeartbeats 8000000 in
set_option maxRecDepth 100000 in
theorem campaign_any {w : World} {base p : Nat} {lv ov tv : Value} {os : List RM} {c : Co} (d : Int) (hd : I64 d) (h : CAt w base p lv ov tv os c) (ht : c.term < 18446744073709551615) (ht0 : 0 ≤ c.term) (hlen : c.log.length ≤ 300) (hl : c.out.length ≤ 90) (hdl : c.dest.length ≤ 90) :
    Calls Try.prog 41 #[.pointer (some ⟨p, 0, none⟩), .int .i64 d] w (Tup0 (CUpd base p lv ov tv (c.campaign d) w)) := by
  have HW := Lib.hid (bel1 w (.cells #[.pointer (some ⟨p, 0, none⟩)] 31))
  have hxo := fun o => h.below (bel1 w o)
  have hbx : (w.alloc (.cells #[.pointer (some ⟨p, 0, none⟩)] 31)).cell? ⟨w.heap.size, 0, none⟩ = some (.pointer (some ⟨p, 0, none⟩)) := (cell_of (heap_alloc_new w _) 0 rfl).1
  have HNB := Lib.hid (show ¬ CF p lv ov tv w.heap.size from fun hk => by have := (h.lt _ hk).2; omega)
  have HP := Lib.hid (show w.heap.size ≠ p from by have := h.toCL.lt.1; omega)
  have HTO := Lib.hid (fun W => timeout_any d W hd.1 hd.2)
  have hw : IntKind.u64.wrap (c.term + 1) = c.term + 1 := by simp [IntKind.wrap, IntKind.signed, IntKind.bits]; omega
  have HE := Lib.hid (show c.campaign d = Co.others Co.campOne { c with term := c.term + 1, voted := c.me, role := 1, head := -1, since := c.now, timeout := timeoutS d } from rfl)
  have HL := Lib.hid (And.intro hlen (And.intro hl hdl))
  have g1 := fun o => (hxo o).toCL.cells.1.2.1
  have f1 := fun o => (hxo o).toCL.cells.2 1
  have H1 := Lib.hid ((hxo (.cells #[.pointer (some ⟨p, 0, none⟩)] 31)).put (c' := { c with term := c.term + 1 }) (w' := (w.alloc (.cells #[.pointer (some ⟨p, 0, none⟩)] 31)).setCell ⟨p, 1, none⟩ (.int .u64 (c.term + 1))) (by rw [setCell_blk (hxo (.cells #[.pointer (some ⟨p, 0, none⟩)] 31)).blk]; rfl) (Mod.cellOf p 1 _) rfl rfl rfl)
  have HX1 := Lib.hid (show ((w.alloc (.cells #[.pointer (some ⟨p, 0, none⟩)] 31)).setCell ⟨p, 1, none⟩ (.int .u64 (c.term + 1))).cell? ⟨w.heap.size, 0, none⟩ = some (.pointer (some ⟨p, 0, none⟩)) from box_keep hbx (Mod.cellOf p 1 _) HP.out)
  have HM1 := Lib.hid (show Mod (CF p lv ov tv) w ((w.alloc (.cells #[.pointer (some ⟨p, 0, none⟩)] 31)).setCell ⟨p, 1, none⟩ (.int .u64 (c.term + 1))) from (Mod.bel HW.out).trans ((Mod.cellOf p 1 _).mono (fun _ _ e => .inl e)))
  clear h hd ht ht0 hlen hl hdl hxo
  go_enter Try.func41, Try.ntmps41
  go_upto_region 2 with fail
  clear g1 f1 hbx
  generalize (w.alloc (.cells #[.pointer (some ⟨p, 0, none⟩)] 31)).setCell ⟨p, 1, none⟩ (.int .u64 (c.term + 1)) = Y1 at *
  generalize hbb : w.heap.size = bx at *
  have HBB := Lib.hid hbb
  clear hbb
  obtain ⟨⟨-, -, g2, -, -, -, -, -, -, -, -, -, -⟩, gf⟩ := H1.out.toCL.cells
  have f2 := gf 2
  clear gf
  refine wp_region_noPanic ?_
  refine wp_region_lim (CampT p bx c) (fun i => decide (i < 8)) (fun i => false) (by kernel_rfl) (by kernel_rfl) ((H1.out.toCL.below (Below.refl _ _).drew).campT (keepc' HX1.out (Below.refl _ _).drew) rfl rfl) (fun HT hS0 => ?_)
  refine tkD HT 0 13 (v := ?_) ?_ ?_
  rotate_left
  · (intro w5 hSw; obtain ⟨q1, q2, q3⟩ := hSw; go_simp; (try with_reducible rfl))
  try simp only [s1, s2, s3]
  refine tkD HT 1 14 (v := ?_) ?_ ?_
  rotate_left
  · (intro w5 hSw; obtain ⟨q1, q2, q3⟩ := hSw; go_simp; (try with_reducible rfl))
  try simp only [s1, s2, s3]
  refine tkD HT 2 15 (v := ?_) ?_ ?_
  rotate_left
  · (intro w5 hSw; obtain ⟨q1, q2, q3⟩ := hSw; go_simp; (try with_reducible rfl))
  try simp only [s1, s2, s3]
  refine tkD HT 3 16 (v := ?_) ?_ ?_
  rotate_left
  · (intro w5 hSw; obtain ⟨q1, q2, q3⟩ := hSw; go_simp; (try with_reducible rfl))
  try simp only [s1, s2, s3]
  refine tkD HT 4 17 (v := ?_) ?_ ?_
  rotate_left
  · (intro w5 hSw; obtain ⟨q1, q2, q3⟩ := hSw; go_simp; (try with_reducible rfl))
  try simp only [s1, s2, s3]
  refine tkD HT 5 18 (v := ?_) ?_ ?_
  rotate_left
  · (intro w5 hSw; obtain ⟨q1, q2, q3⟩ := hSw; go_simp; (try with_reducible rfl))
  try simp only [s1, s2, s3]
  refine tkD HT 6 19 (v := ?_) ?_ ?_
  rotate_left
  · (intro w5 hSw; obtain ⟨q1, q2, q3⟩ := hSw; go_simp; (try with_reducible rfl))
  try simp only [s1, s2, s3]
  refine tkD HT 7 20 (v := ?_) ?_ ?_
  rotate_left
  · (intro w5 hSw; obtain ⟨q1, q2, q3⟩ := hSw; go_simp; (try with_reducible rfl))
  try simp only [s1, s2, s3]
  refine tkL 8 (fun K5 hK => ?_)
  go_simp
  refine hK.out _ _ ?_
  clear hK K5
  try simp only [Act.put, s1, s2, s3]
  refine wpAnyM_done (by kernel_rfl) (NoPanic.normal ?_)
  clear hS0 HT g2 f2
  have H2 := Lib.hid (((H1.out.put (c' := { c with term := c.term + 1, voted := c.me }) (w' := Y1.setCell ⟨p, 2, none⟩ (.int .i64 c.me)) (by rw [setCell_blk H1.out.blk]; rfl) (Mod.cellOf p 2 _) rfl rfl rfl)).below (Below.refl _ _).drew)
  have HX2 := Lib.hid (show (World.drew (Y1.setCell ⟨p, 2, none⟩ (.int .i64 c.me))).cell? ⟨bx, 0, none⟩ = some (.pointer (some ⟨p, 0, none⟩)) from box_keep (S := fun k => k = p) HX1.out ((Mod.cellOf p 2 _).trans (Mod.bel (Below.refl _ _).drew)) HP.out)
  have HM2 := Lib.hid (show Mod (CF p lv ov tv) w (World.drew (Y1.setCell ⟨p, 2, none⟩ (.int .i64 c.me))) from (HM1.out.trans (((Mod.cellOf p 2 _)).mono (fun _ _ e => .inl e))).trans (Mod.bel (Below.refl _ _).drew))
  clear H1 HX1 HM1
  go_upto_region 3 with fail
  generalize World.drew (Y1.setCell ⟨p, 2, none⟩ (.int .i64 c.me)) = Y2 at *
  obtain ⟨⟨-, -, -, -, -, g5, g6, -, -, -, -, -, -⟩, gf⟩ := H2.out.toCL.cells
  have f5 := gf 5
  have f6 := gf 6
  clear gf
  refine wp_region_noPanic ?_
  refine wp_region_lim (CampT p bx c) (fun i => decide (i < 7)) (fun i => false) (by kernel_rfl) (by kernel_rfl) ((H2.out.toCL.below (Below.refl _ _).drew).campT (keepc' HX2.out (Below.refl _ _).drew) rfl rfl) (fun HT hS0 => ?_)
  refine tkD HT 0 21 (v := ?_) ?_ ?_
  rotate_left
  · (intro w5 hSw; obtain ⟨q1, q2, q3⟩ := hSw; go_simp; (try with_reducible rfl))
  try simp only [s1, s2, s3]
  refine tkD HT 1 22 (v := ?_) ?_ ?_
  rotate_left
  · (intro w5 hSw; obtain ⟨q1, q2, q3⟩ := hSw; go_simp; (try with_reducible rfl))
  try simp only [s1, s2, s3]
  refine tkD HT 2 23 (v := ?_) ?_ ?_
  rotate_left
  · (intro w5 hSw; obtain ⟨q1, q2, q3⟩ := hSw; go_simp; (try with_reducible rfl))
  try simp only [s1, s2, s3]
  refine tkD HT 3 24 (v := ?_) ?_ ?_
  rotate_left
  · (intro w5 hSw; obtain ⟨q1, q2, q3⟩ := hSw; go_simp; (try with_reducible rfl))
  try simp only [s1, s2, s3]
  refine tkS 4 (fun K5 hK => ?_)
  go_simp
  refine hK.out _ _ (campT_set ((H2.out.toCL.below (Below.refl _ _).drew).campT (keepc' HX2.out (Below.refl _ _).drew) rfl rfl) HP.out (by omega) (by omega)) (fun hS1 => ?_)
  clear hK K5
  try simp only [Act.put, s1, s2, s3]
  refine tkD HT 5 25 (v := ?_) ?_ ?_
  rotate_left
  · (intro w5 hSw; obtain ⟨q1, q2, q3⟩ := hSw; go_simp; (try with_reducible rfl))
  try simp only [s1, s2, s3]
  refine tkD HT 6 26 (v := ?_) ?_ ?_
  rotate_left
  · (intro w5 hSw; obtain ⟨q1, q2, q3⟩ := hSw; go_simp; (try with_reducible rfl))
  try simp only [s1, s2, s3]
  refine tkL 7 (fun K5 hK => ?_)
  go_simp
  refine hK.out _ _ ?_
  clear hK K5
  try simp only [Act.put, s1, s2, s3]
  refine wpAnyM_done (by kernel_rfl) (NoPanic.normal ?_)
  clear hS1
  clear hS0 HT g5 f5 g6 f6
  have H3 := Lib.hid (((H2.out.put (c' := { c with term := c.term + 1, voted := c.me, role := 1, head := -1 }) (w' := (Y2.setCell ⟨p, 5, none⟩ (.int .i64 1)).setCell ⟨p, 6, none⟩ (.int .i64 (-1))) (by rw [setCell_blk (setCell_blk H2.out.blk)]; rfl) ((Mod.cellOf p 5 _).trans (Mod.cellOf p 6 _)) rfl rfl rfl)).below (Below.refl _ _).drew)
  have HX3 := Lib.hid (show (World.drew ((Y2.setCell ⟨p, 5, none⟩ (.int .i64 1)).setCell ⟨p, 6, none⟩ (.int .i64 (-1)))).cell? ⟨bx, 0, none⟩ = some (.pointer (some ⟨p, 0, none⟩)) from box_keep (S := fun k => k = p) HX2.out (((Mod.cellOf p 5 _).trans (Mod.cellOf p 6 _)).trans (Mod.bel (Below.refl _ _).drew)) HP.out)
  have HM3 := Lib.hid (show Mod (CF p lv ov tv) w (World.drew ((Y2.setCell ⟨p, 5, none⟩ (.int .i64 1)).setCell ⟨p, 6, none⟩ (.int .i64 (-1)))) from (HM2.out.trans ((((Mod.cellOf p 5 _).trans (Mod.cellOf p 6 _))).mono (fun _ _ e => .inl e))).trans (Mod.bel (Below.refl _ _).drew))
  clear H2 HX2 HM2
  go_upto_region 4 with fail
  generalize World.drew ((Y2.setCell ⟨p, 5, none⟩ (.int .i64 1)).setCell ⟨p, 6, none⟩ (.int .i64 (-1))) = Y3 at *
  obtain ⟨⟨-, -, -, -, -, -, -, -, g8, g9, -, -, -⟩, gf⟩ := H3.out.toCL.cells
  have f8 := gf 8
  have f9 := gf 9
  clear gf
  refine wp_region_noPanic ?_
  refine wp_region_lim (CampT p bx c) (fun i => decide (i < 13)) (fun i => false) (by kernel_rfl) (by kernel_rfl) ((H3.out.toCL.below (Below.refl _ _).drew).campT (keepc' HX3.out (Below.refl _ _).drew) rfl rfl) (fun HT hS0 => ?_)
  refine tkD HT 0 27 (v := ?_) ?_ ?_
  rotate_left
  · (intro w5 hSw; obtain ⟨q1, q2, q3⟩ := hSw; go_simp; (try with_reducible rfl))
  try simp only [s1, s2, s3]
  refine tkD HT 1 28 (v := ?_) ?_ ?_
  rotate_left
  · (intro w5 hSw; obtain ⟨q1, q2, q3⟩ := hSw; go_simp; (try with_reducible rfl))
  try simp only [s1, s2, s3]
  refine tkD HT 2 29 (v := ?_) ?_ ?_
  rotate_left
  · (intro w5 hSw; obtain ⟨q1, q2, q3⟩ := hSw; go_simp; (try with_reducible rfl))
  try simp only [s1, s2, s3]
  refine tkD HT 3 30 (v := ?_) ?_ ?_
  rotate_left
  · (intro w5 hSw; obtain ⟨q1, q2, q3⟩ := hSw; go_simp; (try with_reducible rfl))
  try simp only [s1, s2, s3]
  refine tkD HT 4 31 (v := ?_) ?_ ?_
  rotate_left
  · (intro w5 hSw; obtain ⟨q1, q2, q3⟩ := hSw; go_simp; (try with_reducible rfl))
  try simp only [s1, s2, s3]
  refine tkD HT 5 32 (v := ?_) ?_ ?_
  rotate_left
  · (intro w5 hSw; obtain ⟨q1, q2, q3⟩ := hSw; go_simp; (try with_reducible rfl))
  try simp only [s1, s2, s3]
  refine tkD HT 6 33 (v := ?_) ?_ ?_
  rotate_left
  · (intro w5 hSw; obtain ⟨q1, q2, q3⟩ := hSw; go_simp; (try with_reducible rfl))
  try simp only [s1, s2, s3]
  refine tkS 7 (fun K5 hK => ?_)
  go_simp
  go_at_call 30
  refine (HTO.out _).mono ?_
  rintro e w6 ⟨rfl, rfl⟩
  dsimp only
  refine hK.out _ _ ((H3.out.toCL.below (Below.refl _ _).drew).campT (keepc' HX3.out (Below.refl _ _).drew) rfl rfl) (fun hS1 => ?_)
  clear hK K5
  try simp only [Act.put, s1, s2, s3]
  refine tkD HT 8 35 (v := ?_) ?_ ?_
  rotate_left
  · (intro w5 hSw; obtain ⟨q1, q2, q3⟩ := hSw; go_simp; (try with_reducible rfl))
  try simp only [s1, s2, s3]
  refine tkD HT 9 36 (v := ?_) ?_ ?_
  rotate_left
  · (intro w5 hSw; obtain ⟨q1, q2, q3⟩ := hSw; go_simp; (try with_reducible rfl))
  try simp only [s1, s2, s3]
  refine tkS 10 (fun K5 hK => ?_)
  go_simp
  refine hK.out _ _ (campT_set ((H3.out.toCL.below (Below.refl _ _).drew).campT (keepc' HX3.out (Below.refl _ _).drew) rfl rfl) HP.out (by omega) (by omega)) (fun hS1 => ?_)
  clear hK K5
  try simp only [Act.put, s1, s2, s3]
  refine tkD HT 11 37 (v := ?_) ?_ ?_
  rotate_left
  · (intro w5 hSw; obtain ⟨q1, q2, q3⟩ := hSw; go_simp; (try with_reducible rfl))
  try simp only [s1, s2, s3]
  refine tkD HT 12 38 (v := ?_) ?_ ?_
  rotate_left
  · (intro w5 hSw; obtain ⟨q1, q2, q3⟩ := hSw; go_simp; (try with_reducible rfl))
  try simp only [s1, s2, s3]
  refine tkL 13 (fun K5 hK => ?_)
  go_simp
  refine hK.out _ _ ?_
  clear hK K5
  try simp only [Act.put, s1, s2, s3]
  refine wpAnyM_done (by kernel_rfl) (NoPanic.normal ?_)
  clear hS1
  clear hS0 HT g8 f8 g9 f9
  have H4 := Lib.hid (((H3.out.put (c' := { c with term := c.term + 1, voted := c.me, role := 1, head := -1, since := c.now, timeout := timeoutS d }) (w' := (Y3.setCell ⟨p, 8, none⟩ (.int .i64 c.now)).setCell ⟨p, 9, none⟩ (.int .i64 (timeoutS d))) (by rw [setCell_blk (setCell_blk H3.out.blk)]; rfl) ((Mod.cellOf p 8 _).trans (Mod.cellOf p 9 _)) rfl rfl rfl)).below (Below.refl _ _).drew)
  have HX4 := Lib.hid (show (World.drew ((Y3.setCell ⟨p, 8, none⟩ (.int .i64 c.now)).setCell ⟨p, 9, none⟩ (.int .i64 (timeoutS d)))).cell? ⟨bx, 0, none⟩ = some (.pointer (some ⟨p, 0, none⟩)) from box_keep (S := fun k => k = p) HX3.out (((Mod.cellOf p 8 _).trans (Mod.cellOf p 9 _)).trans (Mod.bel (Below.refl _ _).drew)) HP.out)
  have HM4 := Lib.hid (show Mod (CF p lv ov tv) w (World.drew ((Y3.setCell ⟨p, 8, none⟩ (.int .i64 c.now)).setCell ⟨p, 9, none⟩ (.int .i64 (timeoutS d)))) from (HM3.out.trans ((((Mod.cellOf p 8 _).trans (Mod.cellOf p 9 _))).mono (fun _ _ e => .inl e))).trans (Mod.bel (Below.refl _ _).drew))
  clear H3 HX3 HM3
  go_upto_region 5 with fail
  generalize World.drew ((Y3.setCell ⟨p, 8, none⟩ (.int .i64 c.now)).setCell ⟨p, 9, none⟩ (.int .i64 (timeoutS d))) = Y4 at *
  have hxx := HX4.out
  go_wp2_with (go_at_call 36; refine (camp_others H4.out HX4.out HNB.out HL.out.1 HL.out.2.1 HL.out.2.2).mono ?_; rintro e w7 ⟨rfl, hU⟩)
  go_end0
  rw [HE.out]
  exact ⟨rfl, CUpd.then HM4.out (fun _ hk => .inl hk) hU⟩
end Go.Proofs.Ytcleaamjfjnkkaa
