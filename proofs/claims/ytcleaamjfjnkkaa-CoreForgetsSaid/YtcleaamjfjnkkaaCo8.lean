/- How long a voter is sure to lead. -/
import Derived.Test.YtcleaamjfjnkkaaCo7
namespace Go.Proofs.Ytcleaamjfjnkkaa
open Go.RowKit Go.Joins

set_option maxRecDepth 100000 in
theorem TL : Tab Try.prog 86 2 1 8 := ⟨Try.underlying86, _, _, rfl, rfl, rfl, rfl, rfl⟩
/-- the stamps that were collected. -/
def sl (c : Co) : Nat → List Int
  | 0 => []
  | n + 1 => sl c n ++ if (n : Int) = c.me then [] else [(c.pr n).stamp]
theorem sl_3 (c : Co) : sl c 3 = c.stamps := by
  simp [sl, Co.stamps, eq_comm]
theorem sl_len (c : Co) : ∀ n, (sl c n).length ≤ n
  | 0 => Nat.le_refl _
  | n + 1 => by have := sl_len c n; simp only [sl, List.length_append]; split <;> simp <;> omega
/-- a list that grows in a box, beside a voter that lies still. -/
structure UntI (W : World) (bs bx p : Nat) (xs : List Int) (V : World) : Prop where
  bel : Below W.heap.size W V
  row : ∃ sv, V.heap[bs]? = some (.cells #[sv] 86 (0, 0)) ∧ OwnL encI 1 2 V (bs + 1) sv xs
  box : V.cell? ⟨bx, 0, none⟩ = some (.pointer (some ⟨p, 0, none⟩))
theorem UntI.below {W V V' : World} {bs bx p : Nat} {xs : List Int} (h : UntI W bs bx p xs V) (hb : Below V.heap.size V V') : UntI W bs bx p xs V' := by
  obtain ⟨sv, h1, h2⟩ := h.row
  exact ⟨h.bel.trans (hb.mono h.bel.size), ⟨sv, blk_below h1 hb, h2.below hb⟩, keepc' h.box hb⟩
theorem UntI.put {W V V' : World} {bs bx p : Nat} {xs ys : List Int} {sv sv' : Value} (hW : W.heap.size ≤ bs) (hne : bx ≠ bs) (h0 : Below W.heap.size W V) (hx : V.cell? ⟨bx, 0, none⟩ = some (.pointer (some ⟨p, 0, none⟩))) (h1 : V.heap[bs]? = some (.cells #[sv] 86 (0, 0))) (h2 : OwnL encI 1 2 V (bs + 1) sv xs)
    (ho : OwnL encI 1 2 V' (bs + 1) sv' ys) (hg : V.grownBy V' sv.ownBlock) (hxr : sv.ownBlock ≠ some bx) : UntI W bs bx p ys (V'.setCell ⟨bs, 0, none⟩ sv') := by
  have hm : Mod (fun k => sv.ownBlock = some k) V V' := Mod.grown hg (fun k e => e)
  have hb1 : V'.heap[bs]? = some (.cells #[sv] 86 (0, 0)) := hm.heap h1 (fun e => ownR_not h2 h1 (fun cs e => by simp at e) e)
  have hs' : sv'.ownBlock ≠ some bs := ownR_not ho hb1 (fun cs e => by simp at e)
  have hM : Mod (fun k => k = bs) V' (V'.setCell ⟨bs, 0, none⟩ sv') := Mod.cellOf bs 0 sv'
  refine ⟨(h0.trans (hm.below h0.size (fun k e => ?_))).trans (hM.below (Nat.le_trans h0.size hm.size) (fun k e => by omega)), ⟨sv', by rw [setCell_blk hb1]; rfl, hM.own ho (fun g hg e => hs' (e ▸ hg))⟩, box_keep (box_keep hx hm hxr) hM hne⟩
  have := (World.ownsRow.lt h2 k e).1
  omega
def UntS (bs bx p : Nat) (sv : Value) (st : Int) (o : Nat) (w' : World) : Prop := w'.cell? ⟨bs, 0, none⟩ = some sv ∧ w'.cell? ⟨bx, 0, none⟩ = some (.pointer (some ⟨p, 0, none⟩)) ∧ w'.cell? ⟨p, o, none⟩ = some (.int .i64 st)
theorem untS_bel {bs bx p o : Nat} {sv : Value} {st : Int} {w w' : World} (h : UntS bs bx p sv st o w) (hb : Below w.heap.size w w') : UntS bs bx p sv st o w' := ⟨keepc' h.1 hb, keepc' h.2.1 hb, keepc' h.2.2 hb⟩
theorem litL (w : World) (t : Int) : Lst encI 1 (w.alloc (.cells #[.int .i64 t] 2)) (some ⟨w.heap.size, 0, none⟩) [t] := (sli_lit EI w [t] 1 _ 2 rfl rfl (by unfold maxLen; omega)).lst
set_option linter.unusedSimpArgs false in
set_option linter.unusedVariables false in
set_option maxHeartbeats 8000000 in
set_option maxRecDepth 100000 in
theorem until0 {W V : World} {base p bs bx : Nat} {lv ov tv : Value} {c : Co} {xs : List Int} (hc : CL W base p lv ov tv c) (hW : W.heap.size ≤ bs) (hWx : W.heap.size ≤ bx) (hxb : bx < bs) (hl : xs.length ≤ 10) (h : UntI W bs bx p xs V) :
    Calls Try.prog 43 #[.int .i64 0, .pointer (some ⟨bs, 0, none⟩), .pointer (some ⟨bx, 0, none⟩)] V (Tup0 (UntI W bs bx p (xs ++ [(c.pr 0).stamp]))) := by
  have hcV := hc.mod (Mod.of_below h.bel (Nat.le_refl _) (fun _ => False)) (fun c => c) (fun _ _ c => c)
  obtain ⟨sv, h1, h2⟩ := h.row
  have g := (cell_of hcV.blk 13 (v := .int .i64 (c.pr 0).stamp) rfl).1
  obtain ⟨gs, gsf⟩ := cell_of h1 0 (v := sv) rfl
  have gx := h.box
  have hpb : p < W.heap.size := hc.lt.1.2
  have HV := Lib.hid (show UntS bs bx p sv (c.pr 0).stamp 13 V from ⟨gs, gx, g⟩)
  have H := Lib.hid h
  have HR := Lib.hid (And.intro h1 h2)
  have hnx := Lib.hid (show sv.ownBlock ≠ some bx from fun e => by have := (World.ownsRow.lt h2 bx e).1; omega)
  have hnb := Lib.hid (show sv.ownBlock ≠ some bs from fun e => by have := (World.ownsRow.lt h2 bs e).1; omega)
  have hnp := Lib.hid (show sv.ownBlock ≠ some p from fun e => by have := (World.ownsRow.lt h2 p e).1; omega)
  have HWW := Lib.hid (And.intro hW (And.intro hWx hxb))
  have HLO := Lib.hid (show bs + 1 ≤ V.heap.size from blk_lt h1)
  generalize (c.pr 0).stamp = st at *
  clear h h1 h2 hc hcV hW hWx hxb hpb
  go_enter Try.func43, Try.ntmps43
  go_upto_region 0 with fail
  obtain ⟨Y, hY⟩ : ∃ Y, Y = V := ⟨_, rfl⟩
  subst hY
  refine wp_region_noPanic ?_
  refine wp_region_lim (UntS bs bx p sv st 13) (fun i => decide (i < 10)) (fun i => false) (by kernel_rfl) (by kernel_rfl) (untS_bel HV.out (Below.refl _ _).drew) (fun HT hS0 => ?_)
  refine tkD HT 0 4 (v := ?_) ?_ ?_
  rotate_left
  · (intro w5 hSw; obtain ⟨q1, q2, q3⟩ := hSw; go_simp; (try with_reducible rfl))
  try simp only [s1, s2, s3]
  refine tkD HT 1 5 (v := ?_) ?_ ?_
  rotate_left
  · (intro w5 hSw; obtain ⟨q1, q2, q3⟩ := hSw; go_simp; (try with_reducible rfl))
  try simp only [s1, s2, s3]
  refine tkD HT 2 6 (v := ?_) ?_ ?_
  rotate_left
  · (intro w5 hSw; obtain ⟨q1, q2, q3⟩ := hSw; go_simp; (try with_reducible rfl))
  try simp only [s1, s2, s3]
  refine tkD HT 3 7 (v := ?_) ?_ ?_
  rotate_left
  · (intro w5 hSw; obtain ⟨q1, q2, q3⟩ := hSw; go_simp; (try with_reducible rfl))
  try simp only [s1, s2, s3]
  refine tkD HT 4 8 (v := ?_) ?_ ?_
  rotate_left
  · (intro w5 hSw; obtain ⟨q1, q2, q3⟩ := hSw; go_simp; (try with_reducible rfl))
  try simp only [s1, s2, s3]
  refine tkD HT 5 9 (v := ?_) ?_ ?_
  rotate_left
  · (intro w5 hSw; obtain ⟨q1, q2, q3⟩ := hSw; go_simp; (try with_reducible rfl))
  try simp only [s1, s2, s3]
  refine tkD HT 6 10 (v := ?_) ?_ ?_
  rotate_left
  · (intro w5 hSw; obtain ⟨q1, q2, q3⟩ := hSw; go_simp; (try with_reducible rfl))
  try simp only [s1, s2, s3]
  refine tkD HT 7 11 (v := ?_) ?_ ?_
  rotate_left
  · (intro w5 hSw; obtain ⟨q1, q2, q3⟩ := hSw; go_simp; (try with_reducible rfl))
  try simp only [s1, s2, s3]
  refine tkS 8 (fun K5 hK => ?_)
  go_simp
  refine hK.out _ _ (untS_bel (untS_bel HV.out (Below.refl _ _).drew) (bel1 _ (.cells #[.int .i64 st] 2))) (fun hS1 => ?_)
  clear hK K5
  try simp only [Act.put, s1, s2, s3]
  have l1 : Lst encI 1 (World.drew (World.alloc Y (.cells #[.int .i64 st] 2))) (some ⟨Y.heap.size, 0, none⟩) [st] := litL Y.drew st
  have gl1 : Below Y.heap.size Y (World.drew (World.alloc Y (.cells #[.int .i64 st] 2))) := grew_trans (Below.refl _ Y).drew (bel1 Y.drew (.cells #[.int .i64 st] 2))
  generalize (World.drew (World.alloc Y (.cells #[.int .i64 st] 2))) = V1 at *
  have l1' := Lib.hid l1
  have gl1' := Lib.hid gl1
  clear l1 gl1
  refine tkS 9 (fun K5 hK => ?_)
  refine step_app EI TL rfl (.tmp 4) (.tmp 12) rfl rfl (HR.out.2.below gl1'.out) (some ⟨Y.heap.size, 0, none⟩) 1 1 [st] rfl rfl l1'.out (by simp) (show (xs.length + 1) * 8 ≤ 140737488355328 by omega) (show xs.length + 1 ≤ maxLen by unfold maxLen; omega) (Nat.le_trans HLO.out gl1'.out.size) ?_
  intro v1 w1 ho hg hf
  have HO := Lib.hid ho
  have HG := Lib.hid hg
  refine hK.out _ _ ⟨box_keep (keepc' HV.out.1 gl1'.out) (Mod.grown (S := fun k => sv.ownBlock = some k) hg (fun _ e => e)) hnb.out, box_keep (keepc' HV.out.2.1 gl1'.out) (Mod.grown (S := fun k => sv.ownBlock = some k) hg (fun _ e => e)) hnx.out, (Mod.grown (S := fun k => sv.ownBlock = some k) hg (fun _ e => e)).cell (keepc' HV.out.2.2 gl1'.out) hnp.out⟩ (fun hS2 => ?_)
  clear hK K5 ho hg hf
  try simp only [Act.put, s1, s2, s3]
  have HF := Lib.hid (UntI.put HWW.out.1 (show bx ≠ bs by have := HWW.out.2.2; omega) (H.out.bel.trans (gl1'.out.mono H.out.bel.size)) (keepc' H.out.box gl1'.out) (blk_below HR.out.1 gl1'.out) (HR.out.2.below gl1'.out) HO.out HG.out hnx.out)
  have k1 := hS2.1
  have k1f : w1.frozen? ⟨bs, 0, none⟩ = false := by have hm : Mod (fun k => sv.ownBlock = some k) V1 w1 := Mod.grown HG.out (fun _ e => e); exact (cell_of (hm.heap (blk_below HR.out.1 gl1'.out) hnb.out) 0 (v := sv) rfl).2
  obtain ⟨sa1, sc1, hv1, -, -⟩ := HO.out.sli EI
  subst hv1
  refine tkL 10 (fun K5 hK => ?_)
  go_simp
  refine hK.out _ _ ?_
  clear hK K5
  try simp only [Act.put, s1, s2, s3]
  refine wpAnyM_done (by kernel_rfl) (NoPanic.normal ?_)
  go_wp2
  go_end0
  have hff := HF.out
  rw [List.length_append] at hff
  exact ⟨rfl, hff⟩
set_option linter.unusedSimpArgs false in
set_option linter.unusedVariables false in
set_option maxHeartbeats 8000000 in
set_option maxRecDepth 100000 in
theorem until1 {W V : World} {base p bs bx : Nat} {lv ov tv : Value} {c : Co} {xs : List Int} (hc : CL W base p lv ov tv c) (hW : W.heap.size ≤ bs) (hWx : W.heap.size ≤ bx) (hxb : bx < bs) (hl : xs.length ≤ 10) (h : UntI W bs bx p xs V) :
    Calls Try.prog 43 #[.int .i64 1, .pointer (some ⟨bs, 0, none⟩), .pointer (some ⟨bx, 0, none⟩)] V (Tup0 (UntI W bs bx p (xs ++ [(c.pr 1).stamp]))) := by
  have hcV := hc.mod (Mod.of_below h.bel (Nat.le_refl _) (fun _ => False)) (fun c => c) (fun _ _ c => c)
  obtain ⟨sv, h1, h2⟩ := h.row
  have g := (cell_of hcV.blk 19 (v := .int .i64 (c.pr 1).stamp) rfl).1
  obtain ⟨gs, gsf⟩ := cell_of h1 0 (v := sv) rfl
  have gx := h.box
  have hpb : p < W.heap.size := hc.lt.1.2
  have HV := Lib.hid (show UntS bs bx p sv (c.pr 1).stamp 19 V from ⟨gs, gx, g⟩)
  have H := Lib.hid h
  have HR := Lib.hid (And.intro h1 h2)
  have hnx := Lib.hid (show sv.ownBlock ≠ some bx from fun e => by have := (World.ownsRow.lt h2 bx e).1; omega)
  have hnb := Lib.hid (show sv.ownBlock ≠ some bs from fun e => by have := (World.ownsRow.lt h2 bs e).1; omega)
  have hnp := Lib.hid (show sv.ownBlock ≠ some p from fun e => by have := (World.ownsRow.lt h2 p e).1; omega)
  have HWW := Lib.hid (And.intro hW (And.intro hWx hxb))
  have HLO := Lib.hid (show bs + 1 ≤ V.heap.size from blk_lt h1)
  generalize (c.pr 1).stamp = st at *
  clear h h1 h2 hc hcV hW hWx hxb hpb
  go_enter Try.func43, Try.ntmps43
  go_upto_region 0 with fail
  obtain ⟨Y, hY⟩ : ∃ Y, Y = V := ⟨_, rfl⟩
  subst hY
  refine wp_region_noPanic ?_
  refine wp_region_lim (UntS bs bx p sv st 19) (fun i => decide (i < 10)) (fun i => false) (by kernel_rfl) (by kernel_rfl) (untS_bel HV.out (Below.refl _ _).drew) (fun HT hS0 => ?_)
  refine tkD HT 0 4 (v := ?_) ?_ ?_
  rotate_left
  · (intro w5 hSw; obtain ⟨q1, q2, q3⟩ := hSw; go_simp; (try with_reducible rfl))
  try simp only [s1, s2, s3]
  refine tkD HT 1 5 (v := ?_) ?_ ?_
  rotate_left
  · (intro w5 hSw; obtain ⟨q1, q2, q3⟩ := hSw; go_simp; (try with_reducible rfl))
  try simp only [s1, s2, s3]
  refine tkD HT 2 6 (v := ?_) ?_ ?_
  rotate_left
  · (intro w5 hSw; obtain ⟨q1, q2, q3⟩ := hSw; go_simp; (try with_reducible rfl))
  try simp only [s1, s2, s3]
  refine tkD HT 3 7 (v := ?_) ?_ ?_
  rotate_left
  · (intro w5 hSw; obtain ⟨q1, q2, q3⟩ := hSw; go_simp; (try with_reducible rfl))
  try simp only [s1, s2, s3]
  refine tkD HT 4 8 (v := ?_) ?_ ?_
  rotate_left
  · (intro w5 hSw; obtain ⟨q1, q2, q3⟩ := hSw; go_simp; (try with_reducible rfl))
  try simp only [s1, s2, s3]
  refine tkD HT 5 9 (v := ?_) ?_ ?_
  rotate_left
  · (intro w5 hSw; obtain ⟨q1, q2, q3⟩ := hSw; go_simp; (try with_reducible rfl))
  try simp only [s1, s2, s3]
  refine tkD HT 6 10 (v := ?_) ?_ ?_
  rotate_left
  · (intro w5 hSw; obtain ⟨q1, q2, q3⟩ := hSw; go_simp; (try with_reducible rfl))
  try simp only [s1, s2, s3]
  refine tkD HT 7 11 (v := ?_) ?_ ?_
  rotate_left
  · (intro w5 hSw; obtain ⟨q1, q2, q3⟩ := hSw; go_simp; (try with_reducible rfl))
  try simp only [s1, s2, s3]
  refine tkS 8 (fun K5 hK => ?_)
  go_simp
  refine hK.out _ _ (untS_bel (untS_bel HV.out (Below.refl _ _).drew) (bel1 _ (.cells #[.int .i64 st] 2))) (fun hS1 => ?_)
  clear hK K5
  try simp only [Act.put, s1, s2, s3]
  have l1 : Lst encI 1 (World.drew (World.alloc Y (.cells #[.int .i64 st] 2))) (some ⟨Y.heap.size, 0, none⟩) [st] := litL Y.drew st
  have gl1 : Below Y.heap.size Y (World.drew (World.alloc Y (.cells #[.int .i64 st] 2))) := grew_trans (Below.refl _ Y).drew (bel1 Y.drew (.cells #[.int .i64 st] 2))
  generalize (World.drew (World.alloc Y (.cells #[.int .i64 st] 2))) = V1 at *
  have l1' := Lib.hid l1
  have gl1' := Lib.hid gl1
  clear l1 gl1
  refine tkS 9 (fun K5 hK => ?_)
  refine step_app EI TL rfl (.tmp 4) (.tmp 12) rfl rfl (HR.out.2.below gl1'.out) (some ⟨Y.heap.size, 0, none⟩) 1 1 [st] rfl rfl l1'.out (by simp) (show (xs.length + 1) * 8 ≤ 140737488355328 by omega) (show xs.length + 1 ≤ maxLen by unfold maxLen; omega) (Nat.le_trans HLO.out gl1'.out.size) ?_
  intro v1 w1 ho hg hf
  have HO := Lib.hid ho
  have HG := Lib.hid hg
  refine hK.out _ _ ⟨box_keep (keepc' HV.out.1 gl1'.out) (Mod.grown (S := fun k => sv.ownBlock = some k) hg (fun _ e => e)) hnb.out, box_keep (keepc' HV.out.2.1 gl1'.out) (Mod.grown (S := fun k => sv.ownBlock = some k) hg (fun _ e => e)) hnx.out, (Mod.grown (S := fun k => sv.ownBlock = some k) hg (fun _ e => e)).cell (keepc' HV.out.2.2 gl1'.out) hnp.out⟩ (fun hS2 => ?_)
  clear hK K5 ho hg hf
  try simp only [Act.put, s1, s2, s3]
  have HF := Lib.hid (UntI.put HWW.out.1 (show bx ≠ bs by have := HWW.out.2.2; omega) (H.out.bel.trans (gl1'.out.mono H.out.bel.size)) (keepc' H.out.box gl1'.out) (blk_below HR.out.1 gl1'.out) (HR.out.2.below gl1'.out) HO.out HG.out hnx.out)
  have k1 := hS2.1
  have k1f : w1.frozen? ⟨bs, 0, none⟩ = false := by have hm : Mod (fun k => sv.ownBlock = some k) V1 w1 := Mod.grown HG.out (fun _ e => e); exact (cell_of (hm.heap (blk_below HR.out.1 gl1'.out) hnb.out) 0 (v := sv) rfl).2
  obtain ⟨sa1, sc1, hv1, -, -⟩ := HO.out.sli EI
  subst hv1
  refine tkL 10 (fun K5 hK => ?_)
  go_simp
  refine hK.out _ _ ?_
  clear hK K5
  try simp only [Act.put, s1, s2, s3]
  refine wpAnyM_done (by kernel_rfl) (NoPanic.normal ?_)
  go_wp2
  go_end0
  have hff := HF.out
  rw [List.length_append] at hff
  exact ⟨rfl, hff⟩
set_option linter.unusedSimpArgs false in
set_option linter.unusedVariables false in
set_option maxHeartbeats 8000000 in
set_option maxRecDepth 100000 in
theorem until2 {W V : World} {base p bs bx : Nat} {lv ov tv : Value} {c : Co} {xs : List Int} (hc : CL W base p lv ov tv c) (hW : W.heap.size ≤ bs) (hWx : W.heap.size ≤ bx) (hxb : bx < bs) (hl : xs.length ≤ 10) (h : UntI W bs bx p xs V) :
    Calls Try.prog 43 #[.int .i64 2, .pointer (some ⟨bs, 0, none⟩), .pointer (some ⟨bx, 0, none⟩)] V (Tup0 (UntI W bs bx p (xs ++ [(c.pr 2).stamp]))) := by
  have hcV := hc.mod (Mod.of_below h.bel (Nat.le_refl _) (fun _ => False)) (fun c => c) (fun _ _ c => c)
  obtain ⟨sv, h1, h2⟩ := h.row
  have g := (cell_of hcV.blk 25 (v := .int .i64 (c.pr 2).stamp) rfl).1
  obtain ⟨gs, gsf⟩ := cell_of h1 0 (v := sv) rfl
  have gx := h.box
  have hpb : p < W.heap.size := hc.lt.1.2
  have HV := Lib.hid (show UntS bs bx p sv (c.pr 2).stamp 25 V from ⟨gs, gx, g⟩)
  have H := Lib.hid h
  have HR := Lib.hid (And.intro h1 h2)
  have hnx := Lib.hid (show sv.ownBlock ≠ some bx from fun e => by have := (World.ownsRow.lt h2 bx e).1; omega)
  have hnb := Lib.hid (show sv.ownBlock ≠ some bs from fun e => by have := (World.ownsRow.lt h2 bs e).1; omega)
  have hnp := Lib.hid (show sv.ownBlock ≠ some p from fun e => by have := (World.ownsRow.lt h2 p e).1; omega)
  have HWW := Lib.hid (And.intro hW (And.intro hWx hxb))
  have HLO := Lib.hid (show bs + 1 ≤ V.heap.size from blk_lt h1)
  generalize (c.pr 2).stamp = st at *
  clear h h1 h2 hc hcV hW hWx hxb hpb
  go_enter Try.func43, Try.ntmps43
  go_upto_region 0 with fail
  obtain ⟨Y, hY⟩ : ∃ Y, Y = V := ⟨_, rfl⟩
  subst hY
  refine wp_region_noPanic ?_
  refine wp_region_lim (UntS bs bx p sv st 25) (fun i => decide (i < 10)) (fun i => false) (by kernel_rfl) (by kernel_rfl) (untS_bel HV.out (Below.refl _ _).drew) (fun HT hS0 => ?_)
  refine tkD HT 0 4 (v := ?_) ?_ ?_
  rotate_left
  · (intro w5 hSw; obtain ⟨q1, q2, q3⟩ := hSw; go_simp; (try with_reducible rfl))
  try simp only [s1, s2, s3]
  refine tkD HT 1 5 (v := ?_) ?_ ?_
  rotate_left
  · (intro w5 hSw; obtain ⟨q1, q2, q3⟩ := hSw; go_simp; (try with_reducible rfl))
  try simp only [s1, s2, s3]
  refine tkD HT 2 6 (v := ?_) ?_ ?_
  rotate_left
  · (intro w5 hSw; obtain ⟨q1, q2, q3⟩ := hSw; go_simp; (try with_reducible rfl))
  try simp only [s1, s2, s3]
  refine tkD HT 3 7 (v := ?_) ?_ ?_
  rotate_left
  · (intro w5 hSw; obtain ⟨q1, q2, q3⟩ := hSw; go_simp; (try with_reducible rfl))
  try simp only [s1, s2, s3]
  refine tkD HT 4 8 (v := ?_) ?_ ?_
  rotate_left
  · (intro w5 hSw; obtain ⟨q1, q2, q3⟩ := hSw; go_simp; (try with_reducible rfl))
  try simp only [s1, s2, s3]
  refine tkD HT 5 9 (v := ?_) ?_ ?_
  rotate_left
  · (intro w5 hSw; obtain ⟨q1, q2, q3⟩ := hSw; go_simp; (try with_reducible rfl))
  try simp only [s1, s2, s3]
  refine tkD HT 6 10 (v := ?_) ?_ ?_
  rotate_left
  · (intro w5 hSw; obtain ⟨q1, q2, q3⟩ := hSw; go_simp; (try with_reducible rfl))
  try simp only [s1, s2, s3]
  refine tkD HT 7 11 (v := ?_) ?_ ?_
  rotate_left
  · (intro w5 hSw; obtain ⟨q1, q2, q3⟩ := hSw; go_simp; (try with_reducible rfl))
  try simp only [s1, s2, s3]
  refine tkS 8 (fun K5 hK => ?_)
  go_simp
  refine hK.out _ _ (untS_bel (untS_bel HV.out (Below.refl _ _).drew) (bel1 _ (.cells #[.int .i64 st] 2))) (fun hS1 => ?_)
  clear hK K5
  try simp only [Act.put, s1, s2, s3]
  have l1 : Lst encI 1 (World.drew (World.alloc Y (.cells #[.int .i64 st] 2))) (some ⟨Y.heap.size, 0, none⟩) [st] := litL Y.drew st
  have gl1 : Below Y.heap.size Y (World.drew (World.alloc Y (.cells #[.int .i64 st] 2))) := grew_trans (Below.refl _ Y).drew (bel1 Y.drew (.cells #[.int .i64 st] 2))
  generalize (World.drew (World.alloc Y (.cells #[.int .i64 st] 2))) = V1 at *
  have l1' := Lib.hid l1
  have gl1' := Lib.hid gl1
  clear l1 gl1
  refine tkS 9 (fun K5 hK => ?_)
  refine step_app EI TL rfl (.tmp 4) (.tmp 12) rfl rfl (HR.out.2.below gl1'.out) (some ⟨Y.heap.size, 0, none⟩) 1 1 [st] rfl rfl l1'.out (by simp) (show (xs.length + 1) * 8 ≤ 140737488355328 by omega) (show xs.length + 1 ≤ maxLen by unfold maxLen; omega) (Nat.le_trans HLO.out gl1'.out.size) ?_
  intro v1 w1 ho hg hf
  have HO := Lib.hid ho
  have HG := Lib.hid hg
  refine hK.out _ _ ⟨box_keep (keepc' HV.out.1 gl1'.out) (Mod.grown (S := fun k => sv.ownBlock = some k) hg (fun _ e => e)) hnb.out, box_keep (keepc' HV.out.2.1 gl1'.out) (Mod.grown (S := fun k => sv.ownBlock = some k) hg (fun _ e => e)) hnx.out, (Mod.grown (S := fun k => sv.ownBlock = some k) hg (fun _ e => e)).cell (keepc' HV.out.2.2 gl1'.out) hnp.out⟩ (fun hS2 => ?_)
  clear hK K5 ho hg hf
  try simp only [Act.put, s1, s2, s3]
  have HF := Lib.hid (UntI.put HWW.out.1 (show bx ≠ bs by have := HWW.out.2.2; omega) (H.out.bel.trans (gl1'.out.mono H.out.bel.size)) (keepc' H.out.box gl1'.out) (blk_below HR.out.1 gl1'.out) (HR.out.2.below gl1'.out) HO.out HG.out hnx.out)
  have k1 := hS2.1
  have k1f : w1.frozen? ⟨bs, 0, none⟩ = false := by have hm : Mod (fun k => sv.ownBlock = some k) V1 w1 := Mod.grown HG.out (fun _ e => e); exact (cell_of (hm.heap (blk_below HR.out.1 gl1'.out) hnb.out) 0 (v := sv) rfl).2
  obtain ⟨sa1, sc1, hv1, -, -⟩ := HO.out.sli EI
  subst hv1
  refine tkL 10 (fun K5 hK => ?_)
  go_simp
  refine hK.out _ _ ?_
  clear hK K5
  try simp only [Act.put, s1, s2, s3]
  refine wpAnyM_done (by kernel_rfl) (NoPanic.normal ?_)
  go_wp2
  go_end0
  have hff := HF.out
  rw [List.length_append] at hff
  exact ⟨rfl, hff⟩
theorem until_one {W V : World} {base p bs bx : Nat} {lv ov tv : Value} {c : Co} {xs : List Int} (v : Nat) (hv : v < 3) (hc : CL W base p lv ov tv c) (hW : W.heap.size ≤ bs) (hWx : W.heap.size ≤ bx) (hxb : bx < bs) (hl : xs.length ≤ 10) (h : UntI W bs bx p xs V) :
    Calls Try.prog 43 #[.int .i64 (v : Int), .pointer (some ⟨bs, 0, none⟩), .pointer (some ⟨bx, 0, none⟩)] V (Tup0 (UntI W bs bx p (xs ++ [(c.pr v).stamp]))) := by
  obtain rfl | rfl | rfl : v = 0 ∨ v = 1 ∨ v = 2 := by omega
  · exact until0 hc hW hWx hxb hl h
  · exact until1 hc hW hWx hxb hl h
  · exact until2 hc hW hWx hxb hl h
theorem until_others {W V : World} {base p bs bx : Nat} {lv ov tv : Value} {c : Co} (hc : CL W base p lv ov tv c) (hW : W.heap.size ≤ bs) (hWx : W.heap.size ≤ bx) (hxb : bx < bs) (h : UntI W bs bx p [] V) :
    Calls Try.prog 36 #[.pointer (some ⟨p, 0, none⟩), .func (.func 43) #[] #[.pointer (some ⟨bs, 0, none⟩), .pointer (some ⟨bx, 0, none⟩)]] V (Tup0 (UntI W bs bx p c.stamps)) := by
  rw [← sl_3]
  refine others_until (me := c.me) (.pointer (some ⟨bs, 0, none⟩)) (.pointer (some ⟨bx, 0, none⟩)) (fun v w1 => UntI W bs bx p (sl c v) w1) (fun v w1 hI => ?_) (fun v w1 hv he hI => ?_) (fun v w1 hv he hI => ?_) V h
  · exact (hc.mod (Mod.of_below hI.bel (Nat.le_refl _) (fun _ => False)) (fun c => c) (fun _ _ c => c)).cells.1.1
  · simp only [sl]; rw [if_pos he, List.append_nil]; exact hI
  · simp only [sl]; rw [if_neg he]; exact until_one v hv hc hW hWx hxb (by have := sl_len c v; omega) hI
theorem row_of_lst {w : World} {a : Option Addr} {xs : List Int} (h : Lst encI 1 w a xs) : Row w a xs := by
  intro i hi
  obtain ⟨b, off, e, hc⟩ := h i hi
  have := hc 0 _ rfl
  exact ⟨b, off, e, by simpa using this⟩
def LeaS (bs p : Nat) (sv : Value) (n : Int) (bx : Nat) (w' : World) : Prop := w'.cell? ⟨bs, 0, none⟩ = some sv ∧ w'.cell? ⟨p, 10, none⟩ = some (.int .i64 n) ∧ w'.cell? ⟨bx, 0, none⟩ = some (.pointer (some ⟨p, 0, none⟩))
theorem until_len (now : Int) (a : Option Addr) (cap n : Nat) (xs : List Int) (hn : xs.length = n) (w : World) (hm : n ≤ 1000) (hc : Row w a xs) (h1 : I64 now) (hx : ∀ t ∈ xs, I64 t) :
    Calls Try.prog 44 #[.slice a n cap, .int .i64 now] w (RetI (untilR now xs) w) := by
  subst hn
  exact until_any now a cap xs w hm hc h1.1 h1.2 (fun t ht => hx t ht)
set_option linter.unusedSimpArgs false in
set_option linter.unusedVariables false in
set_option maxHeartbeats 8000000 in
set_option maxRecDepth 100000 in
theorem cuntil_any {w : World} {base p : Nat} {lv ov tv : Value} {c : Co} (h : CL w base p lv ov tv c) (hn : I64 c.now) (hs : ∀ v, v < 3 → I64 (c.pr v).stamp) :
    Calls Try.prog 15 #[.pointer (some ⟨p, 0, none⟩)] w (RetI c.until_ w) := by
  have hco := fun o => h.below (bel1 w o)
  have g5 := fun o => (hco o).cells.1.2.2.2.2.2.1
  by_cases hr : c.role = 2
  · have hF := Lib.hid (show c.until_ = untilR c.now c.stamps by unfold Co.until_; rw [if_pos hr])
    rw [hr] at g5
    have hst : ∀ t ∈ c.stamps, I64 t := by
      intro t ht
      unfold Co.stamps at ht
      simp only [List.mem_append] at ht
      rcases ht with (ht | ht) | ht <;> (split at ht <;> simp at ht; subst ht)
      · exact hs 0 (by omega)
      · exact hs 1 (by omega)
      · exact hs 2 (by omega)
    have HST := Lib.hid hst
    have HN := Lib.hid hn
    have HC := Lib.hid h
    have hU0 : UntI w (w.heap.size + 1) w.heap.size p [] ((w.alloc (.cells #[.pointer (some ⟨p, 0, none⟩)] 31)).alloc (.cells #[.slice none 0 0] 86)) :=
      ⟨(bel1 w _).trans ((bel1 _ _).mono (by simp)), ⟨.slice none 0 0, by have := heap_alloc_new (w.alloc (.cells #[.pointer (some ⟨p, 0, none⟩)] 31)) (.cells #[.slice none 0 0] 86); simpa using this, ownL_nil _ _⟩, keepc' (cell_of (heap_alloc_new w _) 0 rfl).1 (bel1 _ _)⟩
    have HU0 := Lib.hid hU0
    have HSL := Lib.hid (show c.stamps.length ≤ 3 from by rw [← sl_3]; exact sl_len c 3)
    clear h hn hs hst hU0 hr hco
    go_enter Try.func15, Try.ntmps15
    go_wp2_with (go_at_call 36; refine (until_others HC.out (by omega) (Nat.le_refl _) (by omega) HU0.out).mono ?_; rintro e w7 ⟨rfl, hU⟩; have HU := Lib.hid hU; clear hU)
    obtain ⟨sv, k1, k2⟩ := HU.out.row
    obtain ⟨sa, sc, hv, hsl, -⟩ := k2.sli EI
    subst hv
    have HV := Lib.hid (show LeaS (w.heap.size + 1) p (.slice sa c.stamps.length sc) c.now w.heap.size w7 from ⟨(cell_of k1 0 rfl).1, (HC.out.mod (Mod.of_below HU.out.bel (Nat.le_refl _) (fun _ => False)) (fun c => c) (fun _ _ c => c)).cells.1.2.2.2.2.2.2.2.2.2.2.1, HU.out.box⟩)
    have HR := Lib.hid (row_of_lst (hsl.lst.below (Below.refl _ w7).drew))
    clear k1 k2 hsl g5
    obtain ⟨Y, hY⟩ : ∃ Y, Y = w7 := ⟨_, rfl⟩
    subst hY
    refine wp_region_noPanic ?_
    refine wp_region_lim (LeaS (w.heap.size + 1) p (.slice sa c.stamps.length sc) c.now w.heap.size) (fun i => decide (i < 5)) (fun i => false) (by kernel_rfl) (by kernel_rfl) ⟨keepc' HV.out.1 (Below.refl _ _).drew, keepc' HV.out.2.1 (Below.refl _ _).drew, keepc' HV.out.2.2 (Below.refl _ _).drew⟩ (fun HT hS0 => ?_)
    refine tkD HT 0 16 (v := ?_) ?_ ?_
    rotate_left
    · (intro w5 hSw; obtain ⟨q1, q2, q3⟩ := hSw; go_simp; (try with_reducible rfl))
    try simp only [s1, s2, s3]
    refine tkD HT 1 17 (v := ?_) ?_ ?_
    rotate_left
    · (intro w5 hSw; obtain ⟨q1, q2, q3⟩ := hSw; go_simp; (try with_reducible rfl))
    try simp only [s1, s2, s3]
    refine tkD HT 2 18 (v := ?_) ?_ ?_
    rotate_left
    · (intro w5 hSw; obtain ⟨q1, q2, q3⟩ := hSw; go_simp; (try with_reducible rfl))
    try simp only [s1, s2, s3]
    refine tkD HT 3 19 (v := ?_) ?_ ?_
    rotate_left
    · (intro w5 hSw; obtain ⟨q1, q2, q3⟩ := hSw; go_simp; (try with_reducible rfl))
    try simp only [s1, s2, s3]
    refine tkD HT 4 20 (v := ?_) ?_ ?_
    rotate_left
    · (intro w5 hSw; obtain ⟨q1, q2, q3⟩ := hSw; go_simp; (try with_reducible rfl))
    try simp only [s1, s2, s3]
    refine tkL 5 (fun K5 hK => ?_)
    go_simp
    go_at_call 44
    refine (until_len c.now sa sc c.stamps.length c.stamps rfl _ (by have := HSL.out; omega) HR.out HN.out HST.out).mono ?_
    rintro e w8 ⟨rfl, hb8⟩
    have HB8 := Lib.hid hb8
    clear hb8
    dsimp only
    refine hK.out _ _ ?_
    clear hK K5
    try simp only [Act.put, s1, s2, s3]
    refine tkL 6 (fun K5 hK => ?_)
    go_simp
    refine hK.out _ _ ?_
    clear hK K5
    try simp only [Act.put, s1, s2, s3]
    refine wpAnyM_done (by kernel_rfl) (NoPanic.normal ?_)
    go_wp2
    go_ret
    exact retI hF.out.symm (HU.out.bel.trans ((grew_trans (Below.refl _ Y).drew HB8.out).mono HU.out.bel.size))
  · have hF := Lib.hid (show c.until_ = 0 by unfold Co.until_; rw [if_neg hr])
    have hb : (c.role != 2) = true := by simp [hr]
    clear hr
    go_enter Try.func15, Try.ntmps15
    go_wp2
    go_ret
    exact retI hF.out.symm (bel1 _ _)
end Go.Proofs.Ytcleaamjfjnkkaa
