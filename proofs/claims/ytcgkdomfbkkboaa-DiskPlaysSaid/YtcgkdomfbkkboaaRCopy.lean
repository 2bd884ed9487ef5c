/- The reference is copied. -/
import Derived.Test.YtcgkdomfbkkboaaCopy
namespace Go.Proofs.Ytcgkdomfbkkboaa
open Go.RowKit Go.Joins Go.ChangeMaps

theorem Hid_below' {w w' : World} {base q : Nat} {bv nv mv : Value} {s : St} (h : Hid (RD w base q bv nv mv s)) (hb : Below w.heap.size w w') : RD w' base q bv nv mv s := h.out.below hb
def RCopyP (w : World) (s : St) (e : Ending) (w' : World) : Prop := ∃ q bv nv mv, e = .returned (.pointer (some ⟨q, 0, none⟩)) ∧ RD w' w.heap.size q bv nv mv s ∧ Below w.heap.size w w'
set_option linter.unusedSimpArgs false in
set_option maxHeartbeats 8000000 in
set_option maxRecDepth 100000 in
theorem rcopy_any {w : World} {base q : Nat} {bv nv mv : Value} {s : St} (h0 : RD w base q bv nv mv s) (hg : Good s) (hn : s.more.length ≤ 1000000) : Calls Try.prog 26 #[.pointer (some ⟨q, 0, none⟩)] w (RCopyP w s) := by
  obtain ⟨⟨g0, g1, g2, g3, g4, g5, g6, g7⟩, -⟩ := h0.cells
  obtain ⟨ba, bc, hbv, hbs, -⟩ := h0.ob.sli ES1
  obtain ⟨na, nc, hnv, hns, -⟩ := h0.on.sli ES1
  obtain ⟨ma, mc, hmv, hms, -⟩ := h0.om.sli EW
  subst hbv hnv hmv
  have HH := Lib.hid h0
  have HL1 := Lib.hid (show (rowOf s.base s.len).length ≤ 1024 by rw [rowOf_length]; have := hg.len; omega)
  have HL2 := Lib.hid (show (rowOf s.now s.len).length ≤ 1024 by rw [rowOf_length]; have := hg.len; omega)
  have HL3 := Lib.hid hn
  obtain ⟨X, hX⟩ : ∃ X, X = w.alloc (.cells #[.int .i64 s.fl.len, .int .i64 s.fl.room, .slice ba (rowOf s.base s.len).length bc, .slice na (rowOf s.now s.len).length nc, .int .i64 (cntF s.now), .slice ma s.more.length mc, .int .i64 s.fl.fuse, .bool (!s.fl.off)] 64) := ⟨_, rfl⟩
  have hb : Below w.heap.size w X := by rw [hX]; exact bel1 _ _
  have hz0 : X.heap[w.heap.size]? = some (.cells #[.int .i64 s.fl.len, .int .i64 s.fl.room, .slice ba (rowOf s.base s.len).length bc, .slice na (rowOf s.now s.len).length nc, .int .i64 (cntF s.now), .slice ma s.more.length mc, .int .i64 s.fl.fuse, .bool (!s.fl.off)] 64 (0, 0)) := by rw [hX]; exact heap_alloc_new w _
  have HZ4 := Lib.hid hz0
  have q0 := cell_of hz0 2 rfl
  have q2 := q0.1
  have q2f := q0.2
  have hz1 := setCell_blk (i := 2) (v := .slice none 0 0) hz0
  have p0 := cell_of hz1 3 rfl
  have q3 := p0.1
  have q3f := p0.2
  have hz2 := setCell_blk (i := 3) (v := .slice none 0 0) hz1
  have r0 := cell_of hz2 5 rfl
  have q5 := r0.1
  have q5f := r0.2
  have HZ5 := Lib.hid (setCell_blk (i := 5) (v := .slice none 0 0) hz2)
  have HB5 := Lib.hid (hb.trans ((((Mod.cellOf w.heap.size 2 (.slice none 0 0) : Mod (fun k => k = w.heap.size) X _).trans (Mod.cellOf w.heap.size 3 (.slice none 0 0))).trans (Mod.cellOf w.heap.size 5 (.slice none 0 0))).below hb.size (fun k e => by omega)))
  have HBS := Lib.hid hbs
  have HNS := Lib.hid hns
  have HMS := Lib.hid hms
  clear q0 p0 r0 hz0 hz1 hz2 h0 hg hn hbs hns hms
  go_enter Try.func26, Try.ntmps26
  go_upto_region 2 with fail
  rw [← hX]
  clear hX g0 g1 g2 g3 g4 g5 g6 g7
  go_upto_region 5 with fail
  clear q2 q2f q3 q3f q5 q5f
  generalize ((X.setCell ⟨w.heap.size, 2, none⟩ (.slice none 0 0)).setCell ⟨w.heap.size, 3, none⟩ (.slice none 0 0)).setCell ⟨w.heap.size, 5, none⟩ (.slice none 0 0) = W5 at *
  have HR5 := Lib.hid (Hid_below' HH (HB5.out))
  have HS5 := Lib.hid (HBS.out.below HB5.out)
  have HX5 := HL1
  have kz := cell_of HZ5.out 2 rfl
  have kz1 := kz.1
  have kz2 := kz.2
  have kq := HR5.out.cells.1.2.2.1
  clear kz
  go_upto_region 5 with fail
  refine wp_region_noPanic ?_
  refine wp_region_last (fun w' => w'.cell? ⟨w.heap.size, 2, none⟩ = some (.slice none 0 0) ∧ w'.cell? ⟨q, 2, none⟩ = some (.slice ba (rowOf s.base s.len).length bc)) (by kernel_rfl) ⟨kz1, kq⟩ (fun hS0 => ?_)
  refine wpAnyL_take 0 (v := ?_) rfl (by kernel_rfl) (fun _ _ _ h => h) (Or.inl ⟨by kernel_rfl, ?_⟩) (by assumption) ?_
  rotate_left
  · (intro w5 hSw; (try dsimp only at hSw); go_split_ands; go_simp; (try with_reducible rfl))
  try simp only [Act.put, List.setIfInBounds_toArray, List.set_cons_zero, List.set_cons_succ]
  refine wpAnyL_take 1 (v := ?_) rfl (by kernel_rfl) (fun _ _ _ h => h) (Or.inl ⟨by kernel_rfl, ?_⟩) (by assumption) ?_
  rotate_left
  · (intro w5 hSw; (try dsimp only at hSw); go_split_ands; go_simp; (try with_reducible rfl))
  try simp only [Act.put, List.setIfInBounds_toArray, List.set_cons_zero, List.set_cons_succ]
  refine wpAnyL_take 2 (v := ?_) rfl (by kernel_rfl) (fun _ _ _ h => h) (Or.inl ⟨by kernel_rfl, ?_⟩) (by assumption) ?_
  rotate_left
  · (intro w5 hSw; (try dsimp only at hSw); go_split_ands; go_simp; (try with_reducible rfl))
  try simp only [Act.put, List.setIfInBounds_toArray, List.set_cons_zero, List.set_cons_succ]
  refine wpAnyL_take 3 (v := ?_) rfl (by kernel_rfl) (fun _ _ _ h => h) (Or.inl ⟨by kernel_rfl, ?_⟩) (by assumption) ?_
  rotate_left
  · (intro w5 hSw; (try dsimp only at hSw); go_split_ands; go_simp; (try with_reducible rfl))
  try simp only [Act.put, List.setIfInBounds_toArray, List.set_cons_zero, List.set_cons_succ]
  refine wpAnyL_take 4 (v := ?_) rfl (by kernel_rfl) (fun _ _ _ h => h) (Or.inl ⟨by kernel_rfl, ?_⟩) (by assumption) ?_
  rotate_left
  · (intro w5 hSw; (try dsimp only at hSw); go_split_ands; go_simp; (try with_reducible rfl))
  try simp only [Act.put, List.setIfInBounds_toArray, List.set_cons_zero, List.set_cons_succ]
  refine wpAnyL_take 5 (v := ?_) rfl (by kernel_rfl) (fun _ _ _ h => h) (Or.inl ⟨by kernel_rfl, ?_⟩) (by assumption) ?_
  rotate_left
  · (intro w5 hSw; (try dsimp only at hSw); go_split_ands; go_simp; (try with_reducible rfl))
  try simp only [Act.put, List.setIfInBounds_toArray, List.set_cons_zero, List.set_cons_succ]
  refine wpAnyL_step 6 (by kernel_rfl) (by rfl) (fun K5 hK => ?_)
  refine step_app (v := .slice none 0 0) (base := w.heap.size) ES1 TS rfl (.tmp 11) (.tmp 15) rfl (by simp [Act.eval]) (ownL_nil _ _) ba (rowOf s.base s.len).length bc (rowOf s.base s.len) rfl (by simp [Act.eval]) (HS5.out.lst.below (Below.refl _ _).drew) HS5.out.nil0 (by have := HX5.out; simp only [List.length_nil]; omega) (by have := HX5.out; unfold maxLen; simp only [List.length_nil]; omega) HB5.out.size ?_
  intro v5 w5 ho hgr hat
  rw [List.nil_append] at ho
  have O5 := Lib.hid ho
  have A5 := Lib.hid hat
  have hm := Lib.hid (((Mod.belowAll (Below.refl _ W5).drew).mono (S' := fun _ => False) (fun _ _ c => c)).trans (Mod.grown hgr (fun k hk => by simp [Value.ownBlock] at hk)))
  obtain ⟨a5, c5, hv5, -, -⟩ := ho.sli ES1
  subst hv5
  have hz6 := hm.out.heap HZ5.out (fun c => c)
  have z6 := cell_of hz6 2 rfl
  have z61 := z6.1
  have z62 := z6.2
  refine hK.out _ _ ⟨hm.out.cell kz1 (fun c => c), hm.out.cell kq (fun c => c)⟩ (fun hS1 => ?_)
  clear hK K5 ho hat hgr
  try simp only [Act.put, List.setIfInBounds_toArray, List.set_cons_zero, List.set_cons_succ]
  refine wpAnyL_take 7 (v := ?_) rfl (by kernel_rfl) (fun _ _ _ h => h) (Or.inl ⟨by kernel_rfl, ?_⟩) (by assumption) ?_
  rotate_left
  · (intro w5 hSw; (try dsimp only at hSw); go_split_ands; go_simp; (try with_reducible rfl))
  try simp only [Act.put, List.setIfInBounds_toArray, List.set_cons_zero, List.set_cons_succ]
  refine wpAnyL_end 8 (by kernel_rfl) (by rfl) (by kernel_rfl) (by kernel_rfl) (fun K5 hK => ?_)
  go_simp
  refine hK.out _ _ (NoPanic.normal ?_)
  clear hK K5
  have HZ6 := Lib.hid (setCell_blk (i := 2) (v := (.slice a5 (rowOf s.base s.len).length c5)) hz6)
  have MC5 := Lib.hid ((hm.out.mono (S' := fun k => k = w.heap.size) (fun _ _ c => c.elim)).trans (Mod.cellOf w.heap.size 2 (.slice a5 (rowOf s.base s.len).length c5) : Mod (fun k => k = w.heap.size) w5 _))
  have HB6 := Lib.hid (HB5.out.trans (MC5.out.below HB5.out.size (fun k e => by omega)))
  have Q5 := Lib.hid (O5.out.mod (Mod.cellOf w.heap.size 2 (.slice a5 (rowOf s.base s.len).length c5) : Mod (fun k => k = w.heap.size) w5 _) (fun g hg e => by have := A5.out g hg; simp [Value.ownBlock] at this; have := blk_lt HZ5.out; omega))
  clear hS0 hS1 kz1 kz2 kq z6 z61 z62 hz6 hm
  obtain ⟨W6, hW6⟩ : ∃ W, W = w5.setCell ⟨w.heap.size, 2, none⟩ (.slice a5 (rowOf s.base s.len).length c5) := ⟨_, rfl⟩
  rw [← hW6] at HZ6 HB6 Q5 MC5
  rw [← hW6]
  clear hW6
  have HR6 := Lib.hid (Hid_below' HH HB6.out)
  have HS6 := Lib.hid (HNS.out.below HB6.out)
  have HX6 := HL2
  have kz := cell_of HZ6.out 3 rfl
  have kz1 := kz.1
  have kz2 := kz.2
  have kq := HR6.out.cells.1.2.2.2.1
  clear kz
  go_upto_region 6 with fail
  refine wp_region_noPanic ?_
  refine wp_region_last (fun w' => w'.cell? ⟨w.heap.size, 3, none⟩ = some (.slice none 0 0) ∧ w'.cell? ⟨q, 3, none⟩ = some (.slice na (rowOf s.now s.len).length nc)) (by kernel_rfl) ⟨kz1, kq⟩ (fun hS0 => ?_)
  refine wpAnyL_take 0 (v := ?_) rfl (by kernel_rfl) (fun _ _ _ h => h) (Or.inl ⟨by kernel_rfl, ?_⟩) (by assumption) ?_
  rotate_left
  · (intro w5 hSw; (try dsimp only at hSw); go_split_ands; go_simp; (try with_reducible rfl))
  try simp only [Act.put, List.setIfInBounds_toArray, List.set_cons_zero, List.set_cons_succ]
  refine wpAnyL_take 1 (v := ?_) rfl (by kernel_rfl) (fun _ _ _ h => h) (Or.inl ⟨by kernel_rfl, ?_⟩) (by assumption) ?_
  rotate_left
  · (intro w5 hSw; (try dsimp only at hSw); go_split_ands; go_simp; (try with_reducible rfl))
  try simp only [Act.put, List.setIfInBounds_toArray, List.set_cons_zero, List.set_cons_succ]
  refine wpAnyL_take 2 (v := ?_) rfl (by kernel_rfl) (fun _ _ _ h => h) (Or.inl ⟨by kernel_rfl, ?_⟩) (by assumption) ?_
  rotate_left
  · (intro w5 hSw; (try dsimp only at hSw); go_split_ands; go_simp; (try with_reducible rfl))
  try simp only [Act.put, List.setIfInBounds_toArray, List.set_cons_zero, List.set_cons_succ]
  refine wpAnyL_take 3 (v := ?_) rfl (by kernel_rfl) (fun _ _ _ h => h) (Or.inl ⟨by kernel_rfl, ?_⟩) (by assumption) ?_
  rotate_left
  · (intro w5 hSw; (try dsimp only at hSw); go_split_ands; go_simp; (try with_reducible rfl))
  try simp only [Act.put, List.setIfInBounds_toArray, List.set_cons_zero, List.set_cons_succ]
  refine wpAnyL_take 4 (v := ?_) rfl (by kernel_rfl) (fun _ _ _ h => h) (Or.inl ⟨by kernel_rfl, ?_⟩) (by assumption) ?_
  rotate_left
  · (intro w5 hSw; (try dsimp only at hSw); go_split_ands; go_simp; (try with_reducible rfl))
  try simp only [Act.put, List.setIfInBounds_toArray, List.set_cons_zero, List.set_cons_succ]
  refine wpAnyL_take 5 (v := ?_) rfl (by kernel_rfl) (fun _ _ _ h => h) (Or.inl ⟨by kernel_rfl, ?_⟩) (by assumption) ?_
  rotate_left
  · (intro w5 hSw; (try dsimp only at hSw); go_split_ands; go_simp; (try with_reducible rfl))
  try simp only [Act.put, List.setIfInBounds_toArray, List.set_cons_zero, List.set_cons_succ]
  refine wpAnyL_step 6 (by kernel_rfl) (by rfl) (fun K5 hK => ?_)
  refine step_app (v := .slice none 0 0) (base := w.heap.size) ES1 TS rfl (.tmp 19) (.tmp 23) rfl (by simp [Act.eval]) (ownL_nil _ _) na (rowOf s.now s.len).length nc (rowOf s.now s.len) rfl (by simp [Act.eval]) (HS6.out.lst.below (Below.refl _ _).drew) HS6.out.nil0 (by have := HX6.out; simp only [List.length_nil]; omega) (by have := HX6.out; unfold maxLen; simp only [List.length_nil]; omega) HB6.out.size ?_
  intro v6 w6 ho hgr hat
  rw [List.nil_append] at ho
  have O6 := Lib.hid ho
  have A6 := Lib.hid hat
  have hm := Lib.hid (((Mod.belowAll (Below.refl _ W6).drew).mono (S' := fun _ => False) (fun _ _ c => c)).trans (Mod.grown hgr (fun k hk => by simp [Value.ownBlock] at hk)))
  obtain ⟨a6, c6, hv6, -, -⟩ := ho.sli ES1
  subst hv6
  have hz6 := hm.out.heap HZ6.out (fun c => c)
  have z6 := cell_of hz6 3 rfl
  have z61 := z6.1
  have z62 := z6.2
  refine hK.out _ _ ⟨hm.out.cell kz1 (fun c => c), hm.out.cell kq (fun c => c)⟩ (fun hS1 => ?_)
  clear hK K5 ho hat hgr
  try simp only [Act.put, List.setIfInBounds_toArray, List.set_cons_zero, List.set_cons_succ]
  refine wpAnyL_take 7 (v := ?_) rfl (by kernel_rfl) (fun _ _ _ h => h) (Or.inl ⟨by kernel_rfl, ?_⟩) (by assumption) ?_
  rotate_left
  · (intro w5 hSw; (try dsimp only at hSw); go_split_ands; go_simp; (try with_reducible rfl))
  try simp only [Act.put, List.setIfInBounds_toArray, List.set_cons_zero, List.set_cons_succ]
  refine wpAnyL_end 8 (by kernel_rfl) (by rfl) (by kernel_rfl) (by kernel_rfl) (fun K5 hK => ?_)
  go_simp
  refine hK.out _ _ (NoPanic.normal ?_)
  clear hK K5
  have HZ7 := Lib.hid (setCell_blk (i := 3) (v := (.slice a6 (rowOf s.now s.len).length c6)) hz6)
  have MC6 := Lib.hid ((hm.out.mono (S' := fun k => k = w.heap.size) (fun _ _ c => c.elim)).trans (Mod.cellOf w.heap.size 3 (.slice a6 (rowOf s.now s.len).length c6) : Mod (fun k => k = w.heap.size) w6 _))
  have HB7 := Lib.hid (HB6.out.trans (MC6.out.below HB6.out.size (fun k e => by omega)))
  have Q6 := Lib.hid (O6.out.mod (Mod.cellOf w.heap.size 3 (.slice a6 (rowOf s.now s.len).length c6) : Mod (fun k => k = w.heap.size) w6 _) (fun g hg e => by have := A6.out g hg; simp [Value.ownBlock] at this; have := blk_lt HZ6.out; omega))
  clear hS0 hS1 kz1 kz2 kq z6 z61 z62 hz6 hm
  obtain ⟨W7, hW7⟩ : ∃ W, W = w6.setCell ⟨w.heap.size, 3, none⟩ (.slice a6 (rowOf s.now s.len).length c6) := ⟨_, rfl⟩
  rw [← hW7] at HZ7 HB7 Q6 MC6
  rw [← hW7]
  clear hW7
  have HR7 := Lib.hid (Hid_below' HH HB7.out)
  have HS7 := Lib.hid (HMS.out.below HB7.out)
  have HX7 := HL3
  have kz := cell_of HZ7.out 5 rfl
  have kz1 := kz.1
  have kz2 := kz.2
  have kq := HR7.out.cells.1.2.2.2.2.2.1
  clear kz
  go_upto_region 7 with fail
  refine wp_region_noPanic ?_
  refine wp_region_last (fun w' => w'.cell? ⟨w.heap.size, 5, none⟩ = some (.slice none 0 0) ∧ w'.cell? ⟨q, 5, none⟩ = some (.slice ma s.more.length mc)) (by kernel_rfl) ⟨kz1, kq⟩ (fun hS0 => ?_)
  refine wpAnyL_take 0 (v := ?_) rfl (by kernel_rfl) (fun _ _ _ h => h) (Or.inl ⟨by kernel_rfl, ?_⟩) (by assumption) ?_
  rotate_left
  · (intro w5 hSw; (try dsimp only at hSw); go_split_ands; go_simp; (try with_reducible rfl))
  try simp only [Act.put, List.setIfInBounds_toArray, List.set_cons_zero, List.set_cons_succ]
  refine wpAnyL_take 1 (v := ?_) rfl (by kernel_rfl) (fun _ _ _ h => h) (Or.inl ⟨by kernel_rfl, ?_⟩) (by assumption) ?_
  rotate_left
  · (intro w5 hSw; (try dsimp only at hSw); go_split_ands; go_simp; (try with_reducible rfl))
  try simp only [Act.put, List.setIfInBounds_toArray, List.set_cons_zero, List.set_cons_succ]
  refine wpAnyL_take 2 (v := ?_) rfl (by kernel_rfl) (fun _ _ _ h => h) (Or.inl ⟨by kernel_rfl, ?_⟩) (by assumption) ?_
  rotate_left
  · (intro w5 hSw; (try dsimp only at hSw); go_split_ands; go_simp; (try with_reducible rfl))
  try simp only [Act.put, List.setIfInBounds_toArray, List.set_cons_zero, List.set_cons_succ]
  refine wpAnyL_take 3 (v := ?_) rfl (by kernel_rfl) (fun _ _ _ h => h) (Or.inl ⟨by kernel_rfl, ?_⟩) (by assumption) ?_
  rotate_left
  · (intro w5 hSw; (try dsimp only at hSw); go_split_ands; go_simp; (try with_reducible rfl))
  try simp only [Act.put, List.setIfInBounds_toArray, List.set_cons_zero, List.set_cons_succ]
  refine wpAnyL_take 4 (v := ?_) rfl (by kernel_rfl) (fun _ _ _ h => h) (Or.inl ⟨by kernel_rfl, ?_⟩) (by assumption) ?_
  rotate_left
  · (intro w5 hSw; (try dsimp only at hSw); go_split_ands; go_simp; (try with_reducible rfl))
  try simp only [Act.put, List.setIfInBounds_toArray, List.set_cons_zero, List.set_cons_succ]
  refine wpAnyL_take 5 (v := ?_) rfl (by kernel_rfl) (fun _ _ _ h => h) (Or.inl ⟨by kernel_rfl, ?_⟩) (by assumption) ?_
  rotate_left
  · (intro w5 hSw; (try dsimp only at hSw); go_split_ands; go_simp; (try with_reducible rfl))
  try simp only [Act.put, List.setIfInBounds_toArray, List.set_cons_zero, List.set_cons_succ]
  refine wpAnyL_step 6 (by kernel_rfl) (by rfl) (fun K5 hK => ?_)
  refine step_app (v := .slice none 0 0) (base := w.heap.size) EW TW rfl (.tmp 27) (.tmp 31) rfl (by simp [Act.eval]) (ownL_nil _ _) ma s.more.length mc s.more rfl (by simp [Act.eval]) (HS7.out.lst.below (Below.refl _ _).drew) HS7.out.nil0 (by have := HX7.out; simp only [List.length_nil]; omega) (by have := HX7.out; unfold maxLen; simp only [List.length_nil]; omega) HB7.out.size ?_
  intro v7 w7 ho hgr hat
  rw [List.nil_append] at ho
  have O7 := Lib.hid ho
  have A7 := Lib.hid hat
  have hm := Lib.hid (((Mod.belowAll (Below.refl _ W7).drew).mono (S' := fun _ => False) (fun _ _ c => c)).trans (Mod.grown hgr (fun k hk => by simp [Value.ownBlock] at hk)))
  obtain ⟨a7, c7, hv7, -, -⟩ := ho.sli EW
  subst hv7
  have hz6 := hm.out.heap HZ7.out (fun c => c)
  have z6 := cell_of hz6 5 rfl
  have z61 := z6.1
  have z62 := z6.2
  refine hK.out _ _ ⟨hm.out.cell kz1 (fun c => c), hm.out.cell kq (fun c => c)⟩ (fun hS1 => ?_)
  clear hK K5 ho hat hgr
  try simp only [Act.put, List.setIfInBounds_toArray, List.set_cons_zero, List.set_cons_succ]
  refine wpAnyL_take 7 (v := ?_) rfl (by kernel_rfl) (fun _ _ _ h => h) (Or.inl ⟨by kernel_rfl, ?_⟩) (by assumption) ?_
  rotate_left
  · (intro w5 hSw; (try dsimp only at hSw); go_split_ands; go_simp; (try with_reducible rfl))
  try simp only [Act.put, List.setIfInBounds_toArray, List.set_cons_zero, List.set_cons_succ]
  refine wpAnyL_end 8 (by kernel_rfl) (by rfl) (by kernel_rfl) (by kernel_rfl) (fun K5 hK => ?_)
  go_simp
  refine hK.out _ _ (NoPanic.normal ?_)
  clear hK K5
  have HZ8 := Lib.hid (setCell_blk (i := 5) (v := (.slice a7 s.more.length c7)) hz6)
  have MC7 := Lib.hid ((hm.out.mono (S' := fun k => k = w.heap.size) (fun _ _ c => c.elim)).trans (Mod.cellOf w.heap.size 5 (.slice a7 s.more.length c7) : Mod (fun k => k = w.heap.size) w7 _))
  have HB8 := Lib.hid (HB7.out.trans (MC7.out.below HB7.out.size (fun k e => by omega)))
  have Q7 := Lib.hid (O7.out.mod (Mod.cellOf w.heap.size 5 (.slice a7 s.more.length c7) : Mod (fun k => k = w.heap.size) w7 _) (fun g hg e => by have := A7.out g hg; simp [Value.ownBlock] at this; have := blk_lt HZ7.out; omega))
  clear hS0 hS1 kz1 kz2 kq z6 z61 z62 hz6 hm
  obtain ⟨W8, hW8⟩ : ∃ W, W = w7.setCell ⟨w.heap.size, 5, none⟩ (.slice a7 s.more.length c7) := ⟨_, rfl⟩
  rw [← hW8] at HZ8 HB8 Q7 MC7
  rw [← hW8]
  clear hW8
  skip
  go_wp2
  go_ret
  have B6 := Q5.out.mod MC6.out (fun g hg e => by subst e; exact ownL_not Q5.out HZ6.out (fun cs e => by simp at e) hg)
  have B7 := B6.mod MC7.out (fun g hg e => by subst e; exact ownL_not B6 HZ7.out (fun cs e => by simp at e) hg)
  have N7 := Q6.out.mod MC7.out (fun g hg e => by subst e; exact ownL_not Q6.out HZ7.out (fun cs e => by simp at e) hg)
  refine ⟨w.heap.size, _, _, _, rfl, ⟨HZ8.out, Nat.le_refl _, B7, N7, Q7.out, fun g hg hg2 => ?_⟩, HB8.out⟩
  have h1 := (World.ownsRow.lt Q5.out g hg).2
  have h2 := A6.out g hg2
  simp [Value.ownBlock] at h2
  omega
end Go.Proofs.Ytcgkdomfbkkboaa
