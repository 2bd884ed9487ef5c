/- What is matched: the closure. -/
import Derived.Test.YtcleaamjfjnkkaaCo17
namespace Go.Proofs.Ytcleaamjfjnkkaa
open Go.RowKit Go.Joins

/-- a list that grows in a box, beside a voter that lies still. -/
structure AnsI (W : World) (bs bx p : Nat) (xs : List Int) (V : World) : Prop where
  bel : Below W.heap.size W V
  row : ∃ sv, V.heap[bs]? = some (.cells #[sv] 60 (0, 0)) ∧ OwnL encI 1 3 V W.heap.size sv xs
  box : V.cell? ⟨bx, 0, none⟩ = some (.pointer (some ⟨p, 0, none⟩))
theorem AnsI.below {W V V' : World} {bs bx p : Nat} {xs : List Int} (h : AnsI W bs bx p xs V) (hb : Below V.heap.size V V') : AnsI W bs bx p xs V' := by
  obtain ⟨sv, h1, h2⟩ := h.row
  exact ⟨h.bel.trans (hb.mono h.bel.size), ⟨sv, blk_below h1 hb, h2.below hb⟩, keepc' h.box hb⟩
theorem AnsI.put {W V V' : World} {bs bx p : Nat} {xs ys : List Int} {sv sv' : Value} (hW : W.heap.size ≤ bs) (hne : bx ≠ bs) (h0 : Below W.heap.size W V) (hx : V.cell? ⟨bx, 0, none⟩ = some (.pointer (some ⟨p, 0, none⟩))) (h1 : V.heap[bs]? = some (.cells #[sv] 60 (0, 0))) (h2 : OwnL encI 1 3 V W.heap.size sv xs)
    (ho : OwnL encI 1 3 V' W.heap.size sv' ys) (hg : V.grownBy V' sv.ownBlock) (hxr : sv.ownBlock ≠ some bx) : AnsI W bs bx p ys (V'.setCell ⟨bs, 0, none⟩ sv') := by
  have hm : Mod (fun k => sv.ownBlock = some k) V V' := Mod.grown hg (fun k e => e)
  have hb1 : V'.heap[bs]? = some (.cells #[sv] 60 (0, 0)) := hm.heap h1 (fun e => ownR_not h2 h1 (fun cs e => by simp at e) e)
  have hs' : sv'.ownBlock ≠ some bs := ownR_not ho hb1 (fun cs e => by simp at e)
  have hM : Mod (fun k => k = bs) V' (V'.setCell ⟨bs, 0, none⟩ sv') := Mod.cellOf bs 0 sv'
  refine ⟨(h0.trans (hm.below h0.size (fun k e => ?_))).trans (hM.below (Nat.le_trans h0.size hm.size) (fun k e => by omega)), ⟨sv', by rw [setCell_blk hb1]; rfl, hM.own ho (fun g hg e => hs' (e ▸ hg))⟩, box_keep (box_keep hx hm hxr) hM hne⟩
  have := (World.ownsRow.lt h2 k e).1
  omega
def AnsS (bs bx p : Nat) (sv : Value) (st : Int) (o : Nat) (w' : World) : Prop := w'.cell? ⟨bs, 0, none⟩ = some sv ∧ w'.cell? ⟨bx, 0, none⟩ = some (.pointer (some ⟨p, 0, none⟩)) ∧ w'.cell? ⟨p, o, none⟩ = some (.int .i64 st)
theorem ansS_bel {bs bx p o : Nat} {sv : Value} {st : Int} {w w' : World} (h : AnsS bs bx p sv st o w) (hb : Below w.heap.size w w') : AnsS bs bx p sv st o w' := ⟨keepc' h.1 hb, keepc' h.2.1 hb, keepc' h.2.2 hb⟩
theorem litN (w : World) (t : Int) : Lst encI 1 (w.alloc (.cells #[.int .i64 t] 3)) (some ⟨w.heap.size, 0, none⟩) [t] := (sli_lit EI w [t] 1 _ 3 rfl rfl (by unfold maxLen; omega)).lst
set_option linter.unusedSimpArgs false in
set_option linter.unusedVariables false in
set_option maxHeartbeats 8000000 in
set_option maxRecDepth 100000 in
theorem match0 {W V : World} {base p bs bx : Nat} {lv ov tv : Value} {c : Co} {xs : List Int} (hc : CL W base p lv ov tv c) (hW : W.heap.size ≤ bs) (hxb : bx < W.heap.size) (hl : xs.length ≤ 10) (h : AnsI W bs bx p xs V) :
    Calls Try.prog 67 #[.int .i64 0, .pointer (some ⟨bs, 0, none⟩), .pointer (some ⟨bx, 0, none⟩)] V (Tup0 (AnsI W bs bx p (xs ++ [(c.pr 0).mat]))) := by
  have hcV := hc.mod (Mod.of_below h.bel (Nat.le_refl _) (fun _ => False)) (fun c => c) (fun _ _ c => c)
  obtain ⟨sv, h1, h2⟩ := h.row
  have g := (cell_of hcV.blk 11 (v := .int .i64 (c.pr 0).mat) rfl).1
  obtain ⟨gs, gsf⟩ := cell_of h1 0 (v := sv) rfl
  have gx := h.box
  have hpb : p < W.heap.size := hc.lt.1.2
  have HV := Lib.hid (show AnsS bs bx p sv (c.pr 0).mat 11 V from ⟨gs, gx, g⟩)
  have H := Lib.hid h
  have HR := Lib.hid (And.intro h1 h2)
  have hnx := Lib.hid (show sv.ownBlock ≠ some bx from fun e => by have := (World.ownsRow.lt h2 bx e).1; omega)
  have hnb := Lib.hid (show sv.ownBlock ≠ some bs from ownR_not h2 h1 (fun cs e => by simp at e))
  have hnp := Lib.hid (show sv.ownBlock ≠ some p from fun e => by have := (World.ownsRow.lt h2 p e).1; omega)
  have HWW := Lib.hid (And.intro hW (And.intro True.intro hxb))
  have HLO := Lib.hid (show W.heap.size ≤ V.heap.size from h.bel.size)
  generalize (c.pr 0).mat = st at *
  clear h h1 h2 hc hcV hW hxb hpb
  go_enter Try.func67, Try.ntmps67
  go_upto_region 0 with fail
  obtain ⟨Y, hY⟩ : ∃ Y, Y = V := ⟨_, rfl⟩
  subst hY
  refine wp_region_noPanic ?_
  refine wp_region_lim (AnsS bs bx p sv st 11) (fun i => decide (i < 10)) (fun i => false) (by kernel_rfl) (by kernel_rfl) (ansS_bel HV.out (Below.refl _ _).drew) (fun HT hS0 => ?_)
  refine tkD HT 0 4 (v := ?_) ?_ ?_
  rotate_left
  · (intro w5 hSw; obtain ⟨q1, q2, q3⟩ := hSw; go_simp; (try with_reducible rfl))
  try simp only [s1, s2, s3]
  refine tkD HT 1 5 (v := ?_) ?_ ?_
  rotate_left
  · (intro w5 hSw; obtain ⟨q1, q2, q3⟩ := hSw; go_simp; (try with_reducible rfl))
  try simp only [s1, s2, s3]
  refine tkD HT 2 6 (v := ?_) ?_ ?_
  rotate_left
  · (intro w5 hSw; obtain ⟨q1, q2, q3⟩ := hSw; go_simp; (try with_reducible rfl))
  try simp only [s1, s2, s3]
  refine tkD HT 3 7 (v := ?_) ?_ ?_
  rotate_left
  · (intro w5 hSw; obtain ⟨q1, q2, q3⟩ := hSw; go_simp; (try with_reducible rfl))
  try simp only [s1, s2, s3]
  refine tkD HT 4 8 (v := ?_) ?_ ?_
  rotate_left
  · (intro w5 hSw; obtain ⟨q1, q2, q3⟩ := hSw; go_simp; (try with_reducible rfl))
  try simp only [s1, s2, s3]
  refine tkD HT 5 9 (v := ?_) ?_ ?_
  rotate_left
  · (intro w5 hSw; obtain ⟨q1, q2, q3⟩ := hSw; go_simp; (try with_reducible rfl))
  try simp only [s1, s2, s3]
  refine tkD HT 6 10 (v := ?_) ?_ ?_
  rotate_left
  · (intro w5 hSw; obtain ⟨q1, q2, q3⟩ := hSw; go_simp; (try with_reducible rfl))
  try simp only [s1, s2, s3]
  refine tkD HT 7 11 (v := ?_) ?_ ?_
  rotate_left
  · (intro w5 hSw; obtain ⟨q1, q2, q3⟩ := hSw; go_simp; (try with_reducible rfl))
  try simp only [s1, s2, s3]
  refine tkS 8 (fun K5 hK => ?_)
  go_simp
  refine hK.out _ _ (ansS_bel (ansS_bel HV.out (Below.refl _ _).drew) (bel1 _ (.cells #[.int .i64 st] 3))) (fun hS1 => ?_)
  clear hK K5
  try simp only [Act.put, s1, s2, s3]
  have l1 : Lst encI 1 (World.drew (World.alloc Y (.cells #[.int .i64 st] 3))) (some ⟨Y.heap.size, 0, none⟩) [st] := litN Y.drew st
  have gl1 : Below Y.heap.size Y (World.drew (World.alloc Y (.cells #[.int .i64 st] 3))) := grew_trans (Below.refl _ Y).drew (bel1 Y.drew (.cells #[.int .i64 st] 3))
  generalize (World.drew (World.alloc Y (.cells #[.int .i64 st] 3))) = V1 at *
  have l1' := Lib.hid l1
  have gl1' := Lib.hid gl1
  clear l1 gl1
  refine tkS 9 (fun K5 hK => ?_)
  refine step_app EI TI rfl (.tmp 4) (.tmp 12) rfl rfl (HR.out.2.below gl1'.out) (some ⟨Y.heap.size, 0, none⟩) 1 1 [st] rfl rfl l1'.out (by simp) (show (xs.length + 1) * 8 ≤ 140737488355328 by omega) (show xs.length + 1 ≤ maxLen by unfold maxLen; omega) (Nat.le_trans HLO.out gl1'.out.size) ?_
  intro v1 w1 ho hg hf
  have HO := Lib.hid ho
  have HG := Lib.hid hg
  refine hK.out _ _ ⟨box_keep (keepc' HV.out.1 gl1'.out) (Mod.grown (S := fun k => sv.ownBlock = some k) hg (fun _ e => e)) hnb.out, box_keep (keepc' HV.out.2.1 gl1'.out) (Mod.grown (S := fun k => sv.ownBlock = some k) hg (fun _ e => e)) hnx.out, (Mod.grown (S := fun k => sv.ownBlock = some k) hg (fun _ e => e)).cell (keepc' HV.out.2.2 gl1'.out) hnp.out⟩ (fun hS2 => ?_)
  clear hK K5 ho hg hf
  try simp only [Act.put, s1, s2, s3]
  have HF := Lib.hid (AnsI.put HWW.out.1 (show bx ≠ bs by have h5 := HWW.out.2.2; have h6 := HWW.out.1; omega) (H.out.bel.trans (gl1'.out.mono H.out.bel.size)) (keepc' H.out.box gl1'.out) (blk_below HR.out.1 gl1'.out) (HR.out.2.below gl1'.out) HO.out HG.out hnx.out)
  have k1 := hS2.1
  have k1f : w1.frozen? ⟨bs, 0, none⟩ = false := by have hm : Mod (fun k => sv.ownBlock = some k) V1 w1 := Mod.grown HG.out (fun _ e => e); exact (cell_of (hm.heap (blk_below HR.out.1 gl1'.out) hnb.out) 0 (v := sv) rfl).2
  obtain ⟨sa1, sc1, hv1, -, -⟩ := HO.out.sli EI
  subst hv1
  refine tkL 10 (fun K5 hK => ?_)
  go_simp
  refine hK.out _ _ ?_
  clear hK K5
  try simp only [Act.put, s1, s2, s3]
  refine wpAnyM_done (by kernel_rfl) (NoPanic.normal ?_)
  go_wp2
  go_end0
  have hff := HF.out
  rw [List.length_append] at hff
  exact ⟨rfl, hff⟩
set_option linter.unusedSimpArgs false in
set_option linter.unusedVariables false in
set_option maxHeartbeats 8000000 in
set_option maxRecDepth 100000 in
theorem match1 {W V : World} {base p bs bx : Nat} {lv ov tv : Value} {c : Co} {xs : List Int} (hc : CL W base p lv ov tv c) (hW : W.heap.size ≤ bs) (hxb : bx < W.heap.size) (hl : xs.length ≤ 10) (h : AnsI W bs bx p xs V) :
    Calls Try.prog 67 #[.int .i64 1, .pointer (some ⟨bs, 0, none⟩), .pointer (some ⟨bx, 0, none⟩)] V (Tup0 (AnsI W bs bx p (xs ++ [(c.pr 1).mat]))) := by
  have hcV := hc.mod (Mod.of_below h.bel (Nat.le_refl _) (fun _ => False)) (fun c => c) (fun _ _ c => c)
  obtain ⟨sv, h1, h2⟩ := h.row
  have g := (cell_of hcV.blk 17 (v := .int .i64 (c.pr 1).mat) rfl).1
  obtain ⟨gs, gsf⟩ := cell_of h1 0 (v := sv) rfl
  have gx := h.box
  have hpb : p < W.heap.size := hc.lt.1.2
  have HV := Lib.hid (show AnsS bs bx p sv (c.pr 1).mat 17 V from ⟨gs, gx, g⟩)
  have H := Lib.hid h
  have HR := Lib.hid (And.intro h1 h2)
  have hnx := Lib.hid (show sv.ownBlock ≠ some bx from fun e => by have := (World.ownsRow.lt h2 bx e).1; omega)
  have hnb := Lib.hid (show sv.ownBlock ≠ some bs from ownR_not h2 h1 (fun cs e => by simp at e))
  have hnp := Lib.hid (show sv.ownBlock ≠ some p from fun e => by have := (World.ownsRow.lt h2 p e).1; omega)
  have HWW := Lib.hid (And.intro hW (And.intro True.intro hxb))
  have HLO := Lib.hid (show W.heap.size ≤ V.heap.size from h.bel.size)
  generalize (c.pr 1).mat = st at *
  clear h h1 h2 hc hcV hW hxb hpb
  go_enter Try.func67, Try.ntmps67
  go_upto_region 0 with fail
  obtain ⟨Y, hY⟩ : ∃ Y, Y = V := ⟨_, rfl⟩
  subst hY
  refine wp_region_noPanic ?_
  refine wp_region_lim (AnsS bs bx p sv st 17) (fun i => decide (i < 10)) (fun i => false) (by kernel_rfl) (by kernel_rfl) (ansS_bel HV.out (Below.refl _ _).drew) (fun HT hS0 => ?_)
  refine tkD HT 0 4 (v := ?_) ?_ ?_
  rotate_left
  · (intro w5 hSw; obtain ⟨q1, q2, q3⟩ := hSw; go_simp; (try with_reducible rfl))
  try simp only [s1, s2, s3]
  refine tkD HT 1 5 (v := ?_) ?_ ?_
  rotate_left
  · (intro w5 hSw; obtain ⟨q1, q2, q3⟩ := hSw; go_simp; (try with_reducible rfl))
  try simp only [s1, s2, s3]
  refine tkD HT 2 6 (v := ?_) ?_ ?_
  rotate_left
  · (intro w5 hSw; obtain ⟨q1, q2, q3⟩ := hSw; go_simp; (try with_reducible rfl))
  try simp only [s1, s2, s3]
  refine tkD HT 3 7 (v := ?_) ?_ ?_
  rotate_left
  · (intro w5 hSw; obtain ⟨q1, q2, q3⟩ := hSw; go_simp; (try with_reducible rfl))
  try simp only [s1, s2, s3]
  refine tkD HT 4 8 (v := ?_) ?_ ?_
  rotate_left
  · (intro w5 hSw; obtain ⟨q1, q2, q3⟩ := hSw; go_simp; (try with_reducible rfl))
  try simp only [s1, s2, s3]
  refine tkD HT 5 9 (v := ?_) ?_ ?_
  rotate_left
  · (intro w5 hSw; obtain ⟨q1, q2, q3⟩ := hSw; go_simp; (try with_reducible rfl))
  try simp only [s1, s2, s3]
  refine tkD HT 6 10 (v := ?_) ?_ ?_
  rotate_left
  · (intro w5 hSw; obtain ⟨q1, q2, q3⟩ := hSw; go_simp; (try with_reducible rfl))
  try simp only [s1, s2, s3]
  refine tkD HT 7 11 (v := ?_) ?_ ?_
  rotate_left
  · (intro w5 hSw; obtain ⟨q1, q2, q3⟩ := hSw; go_simp; (try with_reducible rfl))
  try simp only [s1, s2, s3]
  refine tkS 8 (fun K5 hK => ?_)
  go_simp
  refine hK.out _ _ (ansS_bel (ansS_bel HV.out (Below.refl _ _).drew) (bel1 _ (.cells #[.int .i64 st] 3))) (fun hS1 => ?_)
  clear hK K5
  try simp only [Act.put, s1, s2, s3]
  have l1 : Lst encI 1 (World.drew (World.alloc Y (.cells #[.int .i64 st] 3))) (some ⟨Y.heap.size, 0, none⟩) [st] := litN Y.drew st
  have gl1 : Below Y.heap.size Y (World.drew (World.alloc Y (.cells #[.int .i64 st] 3))) := grew_trans (Below.refl _ Y).drew (bel1 Y.drew (.cells #[.int .i64 st] 3))
  generalize (World.drew (World.alloc Y (.cells #[.int .i64 st] 3))) = V1 at *
  have l1' := Lib.hid l1
  have gl1' := Lib.hid gl1
  clear l1 gl1
  refine tkS 9 (fun K5 hK => ?_)
  refine step_app EI TI rfl (.tmp 4) (.tmp 12) rfl rfl (HR.out.2.below gl1'.out) (some ⟨Y.heap.size, 0, none⟩) 1 1 [st] rfl rfl l1'.out (by simp) (show (xs.length + 1) * 8 ≤ 140737488355328 by omega) (show xs.length + 1 ≤ maxLen by unfold maxLen; omega) (Nat.le_trans HLO.out gl1'.out.size) ?_
  intro v1 w1 ho hg hf
  have HO := Lib.hid ho
  have HG := Lib.hid hg
  refine hK.out _ _ ⟨box_keep (keepc' HV.out.1 gl1'.out) (Mod.grown (S := fun k => sv.ownBlock = some k) hg (fun _ e => e)) hnb.out, box_keep (keepc' HV.out.2.1 gl1'.out) (Mod.grown (S := fun k => sv.ownBlock = some k) hg (fun _ e => e)) hnx.out, (Mod.grown (S := fun k => sv.ownBlock = some k) hg (fun _ e => e)).cell (keepc' HV.out.2.2 gl1'.out) hnp.out⟩ (fun hS2 => ?_)
  clear hK K5 ho hg hf
  try simp only [Act.put, s1, s2, s3]
  have HF := Lib.hid (AnsI.put HWW.out.1 (show bx ≠ bs by have h5 := HWW.out.2.2; have h6 := HWW.out.1; omega) (H.out.bel.trans (gl1'.out.mono H.out.bel.size)) (keepc' H.out.box gl1'.out) (blk_below HR.out.1 gl1'.out) (HR.out.2.below gl1'.out) HO.out HG.out hnx.out)
  have k1 := hS2.1
  have k1f : w1.frozen? ⟨bs, 0, none⟩ = false := by have hm : Mod (fun k => sv.ownBlock = some k) V1 w1 := Mod.grown HG.out (fun _ e => e); exact (cell_of (hm.heap (blk_below HR.out.1 gl1'.out) hnb.out) 0 (v := sv) rfl).2
  obtain ⟨sa1, sc1, hv1, -, -⟩ := HO.out.sli EI
  subst hv1
  refine tkL 10 (fun K5 hK => ?_)
  go_simp
  refine hK.out _ _ ?_
  clear hK K5
  try simp only [Act.put, s1, s2, s3]
  refine wpAnyM_done (by kernel_rfl) (NoPanic.normal ?_)
  go_wp2
  go_end0
  have hff := HF.out
  rw [List.length_append] at hff
  exact ⟨rfl, hff⟩
set_option linter.unusedSimpArgs false in
set_option linter.unusedVariables false in
set_option maxHeartbeats 8000000 in
set_option maxRecDepth 100000 in
theorem match2 {W V : World} {base p bs bx : Nat} {lv ov tv : Value} {c : Co} {xs : List Int} (hc : CL W base p lv ov tv c) (hW : W.heap.size ≤ bs) (hxb : bx < W.heap.size) (hl : xs.length ≤ 10) (h : AnsI W bs bx p xs V) :
    Calls Try.prog 67 #[.int .i64 2, .pointer (some ⟨bs, 0, none⟩), .pointer (some ⟨bx, 0, none⟩)] V (Tup0 (AnsI W bs bx p (xs ++ [(c.pr 2).mat]))) := by
  have hcV := hc.mod (Mod.of_below h.bel (Nat.le_refl _) (fun _ => False)) (fun c => c) (fun _ _ c => c)
  obtain ⟨sv, h1, h2⟩ := h.row
  have g := (cell_of hcV.blk 23 (v := .int .i64 (c.pr 2).mat) rfl).1
  obtain ⟨gs, gsf⟩ := cell_of h1 0 (v := sv) rfl
  have gx := h.box
  have hpb : p < W.heap.size := hc.lt.1.2
  have HV := Lib.hid (show AnsS bs bx p sv (c.pr 2).mat 23 V from ⟨gs, gx, g⟩)
  have H := Lib.hid h
  have HR := Lib.hid (And.intro h1 h2)
  have hnx := Lib.hid (show sv.ownBlock ≠ some bx from fun e => by have := (World.ownsRow.lt h2 bx e).1; omega)
  have hnb := Lib.hid (show sv.ownBlock ≠ some bs from ownR_not h2 h1 (fun cs e => by simp at e))
  have hnp := Lib.hid (show sv.ownBlock ≠ some p from fun e => by have := (World.ownsRow.lt h2 p e).1; omega)
  have HWW := Lib.hid (And.intro hW (And.intro True.intro hxb))
  have HLO := Lib.hid (show W.heap.size ≤ V.heap.size from h.bel.size)
  generalize (c.pr 2).mat = st at *
  clear h h1 h2 hc hcV hW hxb hpb
  go_enter Try.func67, Try.ntmps67
  go_upto_region 0 with fail
  obtain ⟨Y, hY⟩ : ∃ Y, Y = V := ⟨_, rfl⟩
  subst hY
  refine wp_region_noPanic ?_
  refine wp_region_lim (AnsS bs bx p sv st 23) (fun i => decide (i < 10)) (fun i => false) (by kernel_rfl) (by kernel_rfl) (ansS_bel HV.out (Below.refl _ _).drew) (fun HT hS0 => ?_)
  refine tkD HT 0 4 (v := ?_) ?_ ?_
  rotate_left
  · (intro w5 hSw; obtain ⟨q1, q2, q3⟩ := hSw; go_simp; (try with_reducible rfl))
  try simp only [s1, s2, s3]
  refine tkD HT 1 5 (v := ?_) ?_ ?_
  rotate_left
  · (intro w5 hSw; obtain ⟨q1, q2, q3⟩ := hSw; go_simp; (try with_reducible rfl))
  try simp only [s1, s2, s3]
  refine tkD HT 2 6 (v := ?_) ?_ ?_
  rotate_left
  · (intro w5 hSw; obtain ⟨q1, q2, q3⟩ := hSw; go_simp; (try with_reducible rfl))
  try simp only [s1, s2, s3]
  refine tkD HT 3 7 (v := ?_) ?_ ?_
  rotate_left
  · (intro w5 hSw; obtain ⟨q1, q2, q3⟩ := hSw; go_simp; (try with_reducible rfl))
  try simp only [s1, s2, s3]
  refine tkD HT 4 8 (v := ?_) ?_ ?_
  rotate_left
  · (intro w5 hSw; obtain ⟨q1, q2, q3⟩ := hSw; go_simp; (try with_reducible rfl))
  try simp only [s1, s2, s3]
  refine tkD HT 5 9 (v := ?_) ?_ ?_
  rotate_left
  · (intro w5 hSw; obtain ⟨q1, q2, q3⟩ := hSw; go_simp; (try with_reducible rfl))
  try simp only [s1, s2, s3]
  refine tkD HT 6 10 (v := ?_) ?_ ?_
  rotate_left
  · (intro w5 hSw; obtain ⟨q1, q2, q3⟩ := hSw; go_simp; (try with_reducible rfl))
  try simp only [s1, s2, s3]
  refine tkD HT 7 11 (v := ?_) ?_ ?_
  rotate_left
  · (intro w5 hSw; obtain ⟨q1, q2, q3⟩ := hSw; go_simp; (try with_reducible rfl))
  try simp only [s1, s2, s3]
  refine tkS 8 (fun K5 hK => ?_)
  go_simp
  refine hK.out _ _ (ansS_bel (ansS_bel HV.out (Below.refl _ _).drew) (bel1 _ (.cells #[.int .i64 st] 3))) (fun hS1 => ?_)
  clear hK K5
  try simp only [Act.put, s1, s2, s3]
  have l1 : Lst encI 1 (World.drew (World.alloc Y (.cells #[.int .i64 st] 3))) (some ⟨Y.heap.size, 0, none⟩) [st] := litN Y.drew st
  have gl1 : Below Y.heap.size Y (World.drew (World.alloc Y (.cells #[.int .i64 st] 3))) := grew_trans (Below.refl _ Y).drew (bel1 Y.drew (.cells #[.int .i64 st] 3))
  generalize (World.drew (World.alloc Y (.cells #[.int .i64 st] 3))) = V1 at *
  have l1' := Lib.hid l1
  have gl1' := Lib.hid gl1
  clear l1 gl1
  refine tkS 9 (fun K5 hK => ?_)
  refine step_app EI TI rfl (.tmp 4) (.tmp 12) rfl rfl (HR.out.2.below gl1'.out) (some ⟨Y.heap.size, 0, none⟩) 1 1 [st] rfl rfl l1'.out (by simp) (show (xs.length + 1) * 8 ≤ 140737488355328 by omega) (show xs.length + 1 ≤ maxLen by unfold maxLen; omega) (Nat.le_trans HLO.out gl1'.out.size) ?_
  intro v1 w1 ho hg hf
  have HO := Lib.hid ho
  have HG := Lib.hid hg
  refine hK.out _ _ ⟨box_keep (keepc' HV.out.1 gl1'.out) (Mod.grown (S := fun k => sv.ownBlock = some k) hg (fun _ e => e)) hnb.out, box_keep (keepc' HV.out.2.1 gl1'.out) (Mod.grown (S := fun k => sv.ownBlock = some k) hg (fun _ e => e)) hnx.out, (Mod.grown (S := fun k => sv.ownBlock = some k) hg (fun _ e => e)).cell (keepc' HV.out.2.2 gl1'.out) hnp.out⟩ (fun hS2 => ?_)
  clear hK K5 ho hg hf
  try simp only [Act.put, s1, s2, s3]
  have HF := Lib.hid (AnsI.put HWW.out.1 (show bx ≠ bs by have h5 := HWW.out.2.2; have h6 := HWW.out.1; omega) (H.out.bel.trans (gl1'.out.mono H.out.bel.size)) (keepc' H.out.box gl1'.out) (blk_below HR.out.1 gl1'.out) (HR.out.2.below gl1'.out) HO.out HG.out hnx.out)
  have k1 := hS2.1
  have k1f : w1.frozen? ⟨bs, 0, none⟩ = false := by have hm : Mod (fun k => sv.ownBlock = some k) V1 w1 := Mod.grown HG.out (fun _ e => e); exact (cell_of (hm.heap (blk_below HR.out.1 gl1'.out) hnb.out) 0 (v := sv) rfl).2
  obtain ⟨sa1, sc1, hv1, -, -⟩ := HO.out.sli EI
  subst hv1
  refine tkL 10 (fun K5 hK => ?_)
  go_simp
  refine hK.out _ _ ?_
  clear hK K5
  try simp only [Act.put, s1, s2, s3]
  refine wpAnyM_done (by kernel_rfl) (NoPanic.normal ?_)
  go_wp2
  go_end0
  have hff := HF.out
  rw [List.length_append] at hff
  exact ⟨rfl, hff⟩
/-- what is matched, one by one. -/
def ml (c : Co) (n : Int) : Nat → List Int
  | 0 => [n]
  | k + 1 => ml c n k ++ if (k : Int) = c.me then [] else [(c.pr k).mat]
theorem ml_len (c : Co) (n : Int) : ∀ k, (ml c n k).length ≤ k + 1
  | 0 => Nat.le_refl _
  | k + 1 => by have := ml_len c n k; simp only [ml, List.length_append]; split <;> simp <;> omega
theorem ml_3 {c : Co} (h : 0 ≤ c.me ∧ c.me < 3) : ∃ a b, ml c c.log.length 3 = [(c.log.length : Int), a, b] ∧ Co.mid c.log.length a b = c.mats := by
  obtain h0 | h0 | h0 : c.me = 0 ∨ c.me = 1 ∨ c.me = 2 := by omega
  · exact ⟨(c.pr 1).mat, (c.pr 2).mat, by simp [ml, h0], by simp [Co.mats, h0]⟩
  · exact ⟨(c.pr 0).mat, (c.pr 2).mat, by simp [ml, h0], by simp [Co.mats, h0]⟩
  · exact ⟨(c.pr 0).mat, (c.pr 1).mat, by simp [ml, h0], by simp [Co.mats, h0]⟩
theorem match_one {W V : World} {base p bs bx : Nat} {lv ov tv : Value} {c : Co} {xs : List Int} (v : Nat) (hv : v < 3) (hc : CL W base p lv ov tv c) (hW : W.heap.size ≤ bs) (hxb : bx < W.heap.size) (hl : xs.length ≤ 10) (h : AnsI W bs bx p xs V) :
    Calls Try.prog 67 #[.int .i64 (v : Int), .pointer (some ⟨bs, 0, none⟩), .pointer (some ⟨bx, 0, none⟩)] V (Tup0 (AnsI W bs bx p (xs ++ [(c.pr v).mat]))) := by
  obtain rfl | rfl | rfl : v = 0 ∨ v = 1 ∨ v = 2 := by omega
  · exact match0 hc hW hxb hl h
  · exact match1 hc hW hxb hl h
  · exact match2 hc hW hxb hl h
theorem match_others {W V : World} {base p bs bx : Nat} {lv ov tv : Value} {c : Co} {n : Int} (hc : CL W base p lv ov tv c) (hW : W.heap.size ≤ bs) (hxb : bx < W.heap.size) (h : AnsI W bs bx p [n] V) :
    Calls Try.prog 36 #[.pointer (some ⟨p, 0, none⟩), .func (.func 67) #[] #[.pointer (some ⟨bs, 0, none⟩), .pointer (some ⟨bx, 0, none⟩)]] V (Tup0 (AnsI W bs bx p (ml c n 3))) := by
  refine others_ans (me := c.me) (.pointer (some ⟨bs, 0, none⟩)) (.pointer (some ⟨bx, 0, none⟩)) (fun v w1 => AnsI W bs bx p (ml c n v) w1) (fun v w1 hI => ?_) (fun v w1 hv he hI => ?_) (fun v w1 hv he hI => ?_) V h
  · exact (hc.mod (Mod.of_below hI.bel (Nat.le_refl _) (fun _ => False)) (fun c => c) (fun _ _ c => c)).cells.1.1
  · simp only [ml]; rw [if_pos he, List.append_nil]; exact hI
  · simp only [ml]; rw [if_neg he]; exact match_one v hv hc hW hxb (by have := ml_len c n v; omega) hI
end Go.Proofs.Ytcleaamjfjnkkaa
