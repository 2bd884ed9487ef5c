/- A disk is copied. -/
import Derived.Test.YtcgkdomfbkkboaaClone
namespace Go.Proofs.Ytcgkdomfbkkboaa
open Go.RowKit Go.Joins Go.ChangeMaps

def CopyP (w : World) (s : St) (e : Ending) (w' : World) : Prop := ∃ q bm v, e = .returned (.pointer (some ⟨q, 0, none⟩)) ∧ PD w' w.heap.size q bm v s ∧ Below w.heap.size w w'
set_option linter.unusedSimpArgs false in
set_option maxHeartbeats 4000000 in
set_option maxRecDepth 100000 in
theorem copy_any {w : World} {base p bm : Nat} {v : Value} {s : St} (h : PD w base p bm v s) (hn : s.more.length ≤ 1000000) : Calls Try.prog 24 #[.pointer (some ⟨p, 0, none⟩)] w (CopyP w s) := by
  obtain ⟨⟨g0, g1, g2, g3, g4, g5⟩, -⟩ := h.cells
  obtain ⟨ua, uc, hv, hsl, -⟩ := h.own.sli EB
  subst hv
  have HUL := Lib.hid (show s.undo.length ≤ 1000000 by rw [St.undo, undoOf_length]; exact hn)
  obtain ⟨X, hX⟩ : ∃ X, X = w.alloc (.cells #[.map (some bm), .slice ua s.undo.length uc, .int .i64 s.fl.len, .int .i64 s.fl.room, .int .i64 s.fl.fuse, .bool s.fl.off] 61) := ⟨_, rfl⟩
  obtain ⟨z, hz⟩ : ∃ z, z = w.heap.size := ⟨_, rfl⟩
  have hb : Below w.heap.size w X := by rw [hX]; exact bel1 _ _
  have HB := Lib.hid hb
  have HMX := Lib.hid ((h.map.below hb).below (Below.refl _ X).drew)
  have HSX := Lib.hid ((hsl.below hb).below (Below.refl _ X).drew)
  have k0 := keepc' g0 hb
  have k1 := keepc' g1 hb
  have HZ := Lib.hid (show X.drew.heap[z]? = some (.cells #[.map (some bm), .slice ua s.undo.length uc, .int .i64 s.fl.len, .int .i64 s.fl.room, .int .i64 s.fl.fuse, .bool s.fl.off] 61 (0, 0)) from by show X.heap[z]? = _; rw [hX, hz]; exact heap_alloc_new w _)
  have HPZ := Lib.hid (show p ≠ z from by have := (h.lt p (.inl rfl)).2; omega)
  have HZW := Lib.hid hz
  have HXS := Lib.hid (show w.heap.size < X.heap.size from by rw [hX]; simp)
  clear h hsl hn hb
  go_enter Try.func24, Try.ntmps24
  go_upto_region 4 with fail
  rw [← hX, ← hz]
  clear hX hz g0 g1 g2 g3 g4 g5
  refine wp_region_noPanic ?_
  refine wp_region_last (fun w' => w'.cell? ⟨p, 0, none⟩ = some (.map (some bm)) ∧ w'.cell? ⟨p, 1, none⟩ = some (.slice ua s.undo.length uc)) (by kernel_rfl) ⟨k0, k1⟩ (fun hS0 => ?_)
  refine wpAnyL_take 0 (v := ?_) rfl (by kernel_rfl) (fun _ _ _ h => h) (Or.inl ⟨by kernel_rfl, ?_⟩) (by assumption) ?_
  rotate_left
  · (intro w5 hSw; (try dsimp only at hSw); go_split_ands; go_simp; (try with_reducible rfl))
  try simp only [Act.put, List.setIfInBounds_toArray, List.set_cons_zero, List.set_cons_succ]
  refine wpAnyL_take 1 (v := ?_) rfl (by kernel_rfl) (fun _ _ _ h => h) (Or.inl ⟨by kernel_rfl, ?_⟩) (by assumption) ?_
  rotate_left
  · (intro w5 hSw; (try dsimp only at hSw); go_split_ands; go_simp; (try with_reducible rfl))
  try simp only [Act.put, List.setIfInBounds_toArray, List.set_cons_zero, List.set_cons_succ]
  refine wpAnyL_take 2 (v := ?_) rfl (by kernel_rfl) (fun _ _ _ h => h) (Or.inl ⟨by kernel_rfl, ?_⟩) (by assumption) ?_
  rotate_left
  · (intro w5 hSw; (try dsimp only at hSw); go_split_ands; go_simp; (try with_reducible rfl))
  try simp only [Act.put, List.setIfInBounds_toArray, List.set_cons_zero, List.set_cons_succ]
  refine wpAnyL_take 3 (v := ?_) rfl (by kernel_rfl) (fun _ _ _ h => h) (Or.inl ⟨by kernel_rfl, ?_⟩) (by assumption) ?_
  rotate_left
  · (intro w5 hSw; (try dsimp only at hSw); go_split_ands; go_simp; (try with_reducible rfl))
  try simp only [Act.put, List.setIfInBounds_toArray, List.set_cons_zero, List.set_cons_succ]
  refine wpAnyL_take 5 (v := ?_) rfl (by kernel_rfl) (fun _ _ _ h => h) (Or.inl ⟨by kernel_rfl, ?_⟩) (by assumption) ?_
  rotate_left
  · (intro w5 hSw; (try dsimp only at hSw); go_split_ands; go_simp; (try with_reducible rfl))
  try simp only [Act.put, List.setIfInBounds_toArray, List.set_cons_zero, List.set_cons_succ]
  refine wpAnyL_take 6 (v := ?_) rfl (by kernel_rfl) (fun _ _ _ h => h) (Or.inl ⟨by kernel_rfl, ?_⟩) (by assumption) ?_
  rotate_left
  · (intro w5 hSw; (try dsimp only at hSw); go_split_ands; go_simp; (try with_reducible rfl))
  try simp only [Act.put, List.setIfInBounds_toArray, List.set_cons_zero, List.set_cons_succ]
  refine wpAnyL_take 7 (v := ?_) rfl (by kernel_rfl) (fun _ _ _ h => h) (Or.inl ⟨by kernel_rfl, ?_⟩) (by assumption) ?_
  rotate_left
  · (intro w5 hSw; (try dsimp only at hSw); go_split_ands; go_simp; (try with_reducible rfl))
  try simp only [Act.put, List.setIfInBounds_toArray, List.set_cons_zero, List.set_cons_succ]
  refine wpAnyL_take 8 (v := ?_) rfl (by kernel_rfl) (fun _ _ _ h => h) (Or.inl ⟨by kernel_rfl, ?_⟩) (by assumption) ?_
  rotate_left
  · (intro w5 hSw; (try dsimp only at hSw); go_split_ands; go_simp; (try with_reducible rfl))
  try simp only [Act.put, List.setIfInBounds_toArray, List.set_cons_zero, List.set_cons_succ]
  refine wpAnyL_step 4 (by kernel_rfl) (by rfl) (fun K5 hK => ?_)
  go_simp
  go_at_call 40
  refine (mclone_any bm _ _ _ HMX.out).mono ?_
  rintro e w6 ⟨rfl, hM6, hB6⟩
  dsimp only
  have M6 := Lib.hid hM6
  have B6 := Lib.hid (hB6 : Below X.heap.size X.drew w6)
  refine hK.out _ _ ⟨keepc' (w := X.drew) k0 B6.out, keepc' (w := X.drew) k1 B6.out⟩ (fun hS1 => ?_)
  clear hK K5 hM6 hB6
  try simp only [Act.put, List.setIfInBounds_toArray, List.set_cons_zero, List.set_cons_succ]
  refine wpAnyL_step 9 (by kernel_rfl) (by rfl) (fun K5 hK => ?_)
  go_simp
  go_at_call 41
  refine (sclone_any ua uc s.undo _ (HSX.out.below B6.out) HUL.out).mono ?_
  rintro e w7 ⟨v7, rfl, hO7, hB7⟩
  dsimp only
  have O7 := Lib.hid hO7
  have B7 := Lib.hid hB7
  obtain ⟨va, vc, hv7, -, -⟩ := hO7.sli EB
  subst hv7
  refine hK.out _ _ ⟨keepc' hS1.1 B7.out, keepc' hS1.2 B7.out⟩ (fun hS2 => ?_)
  clear hK K5 hO7 hB7
  try simp only [Act.put, List.setIfInBounds_toArray, List.set_cons_zero, List.set_cons_succ]
  refine wpAnyL_take 10 (v := ?_) rfl (by kernel_rfl) (fun _ _ _ h => h) (Or.inl ⟨by kernel_rfl, ?_⟩) (by assumption) ?_
  rotate_left
  · (intro w5 hSw; (try dsimp only at hSw); go_split_ands; go_simp; (try with_reducible rfl))
  try simp only [Act.put, List.setIfInBounds_toArray, List.set_cons_zero, List.set_cons_succ]
  have hz7 := (Mod.belowAll (B7.out)).heap ((Mod.belowAll (B6.out)).heap HZ.out (fun c => c)) (fun c => c)
  have z0 := cell_of hz7 0 rfl
  have z01 := z0.1
  have z02 := z0.2
  refine wpAnyL_step 11 (by kernel_rfl) (by rfl) (fun K5 hK => ?_)
  go_simp
  refine hK.out _ _ ⟨(Mod.cellOf z 0 _ : Mod (fun k => k = z) w7 _).cell hS2.1 HPZ.out, (Mod.cellOf z 0 _ : Mod (fun k => k = z) w7 _).cell hS2.2 HPZ.out⟩ (fun hS3 => ?_)
  clear hK K5
  try simp only [Act.put, List.setIfInBounds_toArray, List.set_cons_zero, List.set_cons_succ]
  refine wpAnyL_take 12 (v := ?_) rfl (by kernel_rfl) (fun _ _ _ h => h) (Or.inl ⟨by kernel_rfl, ?_⟩) (by assumption) ?_
  rotate_left
  · (intro w5 hSw; (try dsimp only at hSw); go_split_ands; go_simp; (try with_reducible rfl))
  try simp only [Act.put, List.setIfInBounds_toArray, List.set_cons_zero, List.set_cons_succ]
  have hz8 := setCell_blk (i := 0) (v := .map (some X.heap.size)) hz7
  have z1 := cell_of hz8 1 rfl
  have z11 := z1.1
  have z12 := z1.2
  refine wpAnyL_end 13 (by kernel_rfl) (by rfl) (by kernel_rfl) (by kernel_rfl) (fun K5 hK => ?_)
  go_simp
  refine hK.out _ _ (NoPanic.normal ?_)
  clear hK K5
  have hz9 := Lib.hid (setCell_blk (i := 1) (v := .slice va s.undo.length vc) hz8)
  have HM9 := Lib.hid ((Mod.cellOf z 0 (.map (some X.heap.size)) : Mod (fun k => k = z) w7 _).trans (Mod.cellOf z 1 (.slice va s.undo.length vc)))
  clear hz7 hz8 z0 z01 z02 z1 z11 z12 hS0 hS1 hS2 hS3 k0 k1
  generalize (w7.setCell ⟨z, 0, none⟩ (.map (some X.heap.size))).setCell ⟨z, 1, none⟩ (.slice va s.undo.length vc) = Y at *
  go_wp2
  go_ret
  have hzw := HZW.out
  have hx1 := HXS.out
  have hx2 : X.heap.size ≤ w6.heap.size := B6.out.size
  have hxd : X.drew.heap.size = X.heap.size := rfl
  have e1 : Mod (fun k => k = z) w Y := ((Mod.belowAll HB.out).mono (fun _ _ c => c.elim)).trans (((Mod.belowAll (w := X) (w' := w6) ((Below.refl _ X).drew.trans B6.out)).mono (fun _ _ c => c.elim)).trans (((Mod.belowAll B7.out).mono (fun _ _ c => c.elim)).trans HM9.out))
  refine ⟨z, X.heap.size, .slice va s.undo.length vc, rfl, ⟨hz9.out, by omega, (O7.out.mono (by omega)).mod HM9.out (fun g hg e => ?_), by omega, (M6.out.below B7.out).mod HM9.out (fun e => by omega)⟩, e1.below (Nat.le_refl _) (fun k e => by omega)⟩
  have := (World.ownsRow.lt O7.out g hg).1
  omega
end Go.Proofs.Ytcgkdomfbkkboaa
