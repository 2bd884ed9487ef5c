/- The chapter's examples. -/
import Derived.Test.YtmiaifbpepfbnaaKnownP
namespace Go.Proofs.Ytmiaifbpepfbnaa
open Go.RowKit Go.Joins Go.ChangeMaps

set_option linter.unusedSimpArgs false
set_option maxRecDepth 100000 in
set_option maxHeartbeats 16000000 in
theorem lawKnown (W : World) : Calls Try.prog 7 #[] W (RetB true W) := by
  have T1 := trivial
  go_enter Try.func7, Try.ntmps7
  go_upto_region 4 with (first
    | (have z := T1; go_at_call 8; refine (n_new 3 (by omega) (by omega)).mono ?_; rintro e w1 ⟨rfl, hN⟩; have N := Lib.hid hN; clear hN; clear T1 z; have T2 := trivial)
    | (have z := T2; go_at_call 8; refine (new_out 0 _ (by omega)).mono ?_; rintro e w1 ⟨rfl, rfl⟩; clear T2 z; have T3 := trivial)
    | (have z := T3; go_at_call 8; refine (new_out 7 _ (by omega)).mono ?_; rintro e w1 ⟨rfl, rfl⟩; clear T3 z; have T4 := trivial)
    | (have z := T4; go_at_call 8; refine (new_any 6 _ (by omega) (by omega)).mono ?_; rintro e w2 ⟨rfl, -, hb⟩; have N' := Lib.hid (N.out.below hb); clear N hb; have N := N'; clear N'; clear T4 z; have T5 := trivial))
  clear T5
  have hn0 := Lib.hid (show W.heap.size + 1 < w2.heap.size from by obtain ⟨v, -, hP, -⟩ := N.out; exact (hP.lt _ (.inl rfl)).2)
  refine wp_region_rel_last (RK (W.heap.size + 1) w2.heap.size) (fun v W' => v = .tuple #[] ∧ NE W W' (fun _ => False) (W.heap.size + 1) W.heap.size wk1) (by kernel_rfl) (by kernel_rfl) (by kernel_rfl) (by decide) (RK_keep _ _) ?_ ?_ ?_
  · intro i o ho hi a' X hX hfr hdep
    have ep1 : a'.tmps[1]? = some (.pointer (some ⟨W.heap.size + 1, 0, none⟩)) := (hfr 1 (dst_not (by kernel_rfl))).trans rfl
    match i, ho with
    | 0, ho =>
      cases ho
      refine relStep_free rfl ?_
      simp [execOp, go_sem, ep1, relUpon]
      exact ⟨Below.refl _ _, rfl⟩
    | 1, ho =>
      cases ho
      refine relStep_free rfl ?_
      simp [execOp, go_sem, relUpon]
      exact (frame_any (0) (1) _ _).mono (by rintro e w1 ⟨rfl, b1⟩; exact ⟨_, rfl, b1, rfl⟩)
    | 2, ho =>
      cases ho
      refine relStep_free rfl ?_
      simp [execOp, go_sem, relUpon]
      exact (frame_any (1) (2) _ _).mono (by rintro e w1 ⟨rfl, b1⟩; exact ⟨_, rfl, b1, rfl⟩)
    | 3, ho =>
      cases ho
      refine relStep_free rfl ?_
      simp [execOp, go_sem, relUpon]
      exact (frame_any (0) (0) _ _).mono (by rintro e w1 ⟨rfl, b1⟩; exact ⟨_, rfl, b1, rfl⟩)
    | 4, ho =>
      cases ho
      refine relStep_free rfl ?_
      simp [execOp, go_sem, relUpon]
      exact (frame_any (0) (3) _ _).mono (by rintro e w1 ⟨rfl, b1⟩; exact ⟨_, rfl, b1, rfl⟩)
    | 5, ho =>
      cases ho
      refine relStep_free rfl ?_
      simp [execOp, go_sem, relUpon]
      exact (frame_any (2) (0) _ _).mono (by rintro e w1 ⟨rfl, b1⟩; exact ⟨_, rfl, b1, rfl⟩)
    | 6, ho =>
      cases ho
      refine relStep_free rfl ?_
      simp [execOp, go_sem, relUpon]
      exact (frame_any (-1) (0) _ _).mono (by rintro e w1 ⟨rfl, b1⟩; exact ⟨_, rfl, b1, rfl⟩)
    | 7, ho =>
      cases ho
      refine relStep_free rfl ?_
      obtain ⟨v, X', hrun, hb, hN⟩ := made_noughts X
      simp [execOp, go_sem, relUpon, hrun]
      exact ⟨hb, hN⟩
    | 8, ho =>
      cases ho
      obtain ⟨u, e0, hN⟩ := hdep ⟨7, .data⟩ (by simp) rfl _ _ rfl rfl
      obtain ⟨z, hrun, hz⟩ := conv_noughts hN
      refine relStep_free rfl ?_
      simp [execOp, go_sem, relUpon, e0, hrun]
      exact ⟨Below.refl _ _, z, rfl, hz⟩
    | 9, ho =>
      cases ho
      obtain ⟨_, e0, ⟨z, rfl, hz⟩⟩ := hdep ⟨8, .data⟩ (by simp) rfl _ _ rfl rfl
      refine relStep_free rfl ?_
      simp [execOp, go_sem, relUpon, e0]
      exact (frame_any 0 1 z _).mono (by rintro e w1 ⟨rfl, b1⟩; exact ⟨_, rfl, b1, z, rfl, hz⟩)
    | 10, ho =>
      cases ho
      obtain ⟨_, e0, rfl⟩ := hdep ⟨1, .data⟩ (by simp) rfl _ _ rfl rfl
      obtain ⟨_, e1, rfl⟩ := hdep ⟨2, .data⟩ (by simp) rfl _ _ rfl rfl
      obtain ⟨_, e2, rfl⟩ := hdep ⟨3, .data⟩ (by simp) rfl _ _ rfl rfl
      obtain ⟨_, e3, rfl⟩ := hdep ⟨4, .data⟩ (by simp) rfl _ _ rfl rfl
      obtain ⟨_, e4, rfl⟩ := hdep ⟨5, .data⟩ (by simp) rfl _ _ rfl rfl
      obtain ⟨_, e5, rfl⟩ := hdep ⟨6, .data⟩ (by simp) rfl _ _ rfl rfl
      obtain ⟨_, e6, ⟨z, rfl, hz⟩⟩ := hdep ⟨9, .data⟩ (by simp) rfl _ _ rfl rfl
      refine relStep_free rfl ?_
      simp [execOp, go_sem, relUpon, frV, fa, fb, e0, e1, e2, e3, e4, e5, e6]
      exact ⟨bel1 _ _, z, _, rfl, hz, hX.size, by simp, sli_lit EF X (L7 z) 7 _ 31 rfl rfl (by unfold maxLen; omega)⟩
    | n + 11, ho => simp at hi; omega
  · intro o ho a' X hX hfr hdep
    cases ho
    obtain ⟨_, e0, rfl⟩ := hdep ⟨0, .data⟩ (by simp) rfl _ _ rfl rfl
    obtain ⟨_, e1, ⟨z, b, rfl, hz, h1, h2, hS⟩⟩ := hdep ⟨10, .data⟩ (by simp) rfl _ _ rfl rfl
    refine ⟨rfl, by simp, ?_⟩
    simp [execOp, go_sem, lastUpon, e0, e1]
    have hsnd := n_send (n := 7) (N.out.more hX) (good_new (by omega) (by omega)) hS rfl (by simp [newS]) (fun b' off e => by simp at e; obtain ⟨rfl, -⟩ := e; exact .inr ⟨h1, h2⟩)
    rw [send7 hz] at hsnd
    exact hsnd.mono (by rintro e w1 ⟨rfl, hs⟩; exact ⟨_, rfl, rfl, hs.1.less (fun _ c => c.elim)⟩)
  · intro vs X hR
    obtain ⟨e11, hN⟩ := hR
    have N1 := Lib.hid hN
    simp at e11
    simp [putsFrom, Act.put, e11]
    clear e11 hN hn0 N
    have N := N1
    clear N1
    generalize vs 0 = x0
    generalize vs 1 = x1
    generalize vs 2 = x2
    generalize vs 3 = x3
    generalize vs 4 = x4
    generalize vs 5 = x5
    generalize vs 6 = x6
    generalize vs 7 = x7
    generalize vs 8 = x8
    generalize vs 9 = x9
    generalize vs 10 = x10
    generalize w2.heap.size = zz at *
    have T1 := trivial
    go_upto_region 13 with (first
      | (have z := T1; go_at_call 22; refine (c_sent N.out).mono ?_; rintro e w1 ⟨rfl, hb⟩; have N' := Lib.hid (N.out.below hb); clear N hb; have N := N'; clear N'; clear T1 z; have T2 := trivial)
      | (have z := T2; go_at_call 13; refine (c_len1 N.out).mono ?_; rintro e w1 ⟨rfl, rfl⟩; clear T2 z; have T3 := trivial)
      | (have z := T3; go_at_call 14; refine (works_any _).mono ?_; rintro e w1 ⟨rfl, hb⟩; have N' := Lib.hid (N.out.below hb); clear N hb; have N := N'; clear N'; clear T3 z; have T4 := trivial)
      | (have z := T4; go_at_call 16; refine (c_cut1 N.out).mono ?_; rintro e w1 ⟨rfl, hs⟩; have N' := Lib.hid (hs.1); clear N hs; have N := N'; clear N'; clear T4 z; have T5 := trivial)
      | (have z := T5; go_at_call 16; refine (c_cut2 N.out).mono ?_; rintro e w1 ⟨rfl, hs⟩; have N' := Lib.hid (hs.1); clear N hs; have N := N'; clear N'; clear T5 z; have T6 := trivial)
      | (have z := T6; go_at_call 17; refine (c_take1 N.out).mono ?_; rintro e w1 ⟨rfl, hs⟩; have N' := Lib.hid (hs.1.below (bel1 w1 (.cells #[.int .i64 (0), .int .i64 (0), .string ⟨#[]⟩] 31))); clear N hs; have N := N'; clear N'; clear T6 z; have T7 := trivial)
      | (have z := T7; go_at_call 19; refine (c_join1 N.out).mono ?_; rintro e w1 ⟨rfl, hs⟩; have N' := Lib.hid (hs.1); clear N hs; have N := N'; clear N'; clear T7 z; have T8 := trivial)
      | (have z := T8; go_at_call 19; refine (c_join2 N.out).mono ?_; rintro e w1 ⟨rfl, hs⟩; have N' := Lib.hid (hs.1); clear N hs; have N := N'; clear N'; clear T8 z; have T9 := trivial)
      | (have z := T9; go_at_call 17; refine (c_take2 N.out).mono ?_; rintro e w5 ⟨rfl, hs⟩; have N' := Lib.hid ((hs.1.more (bel1 w5 (.cells #[.int .i64 (1), .int .i64 (2), .string ⟨#[98]⟩] 31))).less (F' := fun k => k = w5.heap.size) (fun k hk => .inr (by subst hk; simp))); have C1 := Lib.hid (heap_alloc_new w5 (.cells #[.int .i64 (1), .int .i64 (2), .string ⟨#[98]⟩] 31)); clear N hs; have N := N'; clear N'; clear T9 z; have T10 := trivial)
      | (have z := T10; go_at_call 17; refine (c_take3 N.out).mono ?_; rintro e w6 ⟨rfl, hs⟩; have C2 := Lib.hid (blk_below (hs.2.1 _ _ rfl C1.out) (bel1 w6 (.cells #[.int .i64 (0), .int .i64 (0), .string ⟨#[]⟩] 31))); have N' := Lib.hid (hs.1.below (bel1 w6 (.cells #[.int .i64 (0), .int .i64 (0), .string ⟨#[]⟩] 31))); clear N hs C1; have N := N'; clear N'; clear T10 z; have T11 := trivial))
    generalize w6.alloc (.cells #[.int .i64 (0), .int .i64 (0), .string ⟨#[]⟩] 31) = X1 at *
    generalize w5.heap.size = n5 at *
    generalize w6.heap.size = n6 at *
    clear T11
    have l0 := fun y : Later X1 => y.cell (cell_of C2.out 0 (v := .int .i64 1) rfl).1
    have l1 := fun y : Later X1 => y.cell (cell_of C2.out 1 (v := .int .i64 2) rfl).1
    have l2 := fun y : Later X1 => y.cell (cell_of C2.out 2 (v := .string ⟨#[98]⟩) rfl).1
    have h1 : ∀ V, (binOp .neq 31 (.agg #[.int .i64 1, .int .i64 2, .string ⟨#[98]⟩]) (.agg #[.int .i64 1, .int .i64 2, .string ⟨#[98]⟩])).run Try.prog V = .ok (.bool false) V := fun V => (neq31 V 1 2 1 2 ⟨#[98]⟩ ⟨#[98]⟩).trans (by rw [(eqF_iff _ _).2 rfl]; rfl)
    have hlen := Lib.hid (fun y : Later X1 => c_len4 (N.out.below y.h))
    have hdr := Lib.hid (fun y : Later X1 => c_drop4 (N.out.below y.h))
    have hdm := Lib.hid (fun y : Later X1 => c_drop4m (N.out.below y.h))
    have htw := Lib.hid (fun y : Later X1 => c_twice4 (N.out.below y.h))
    refine wp_region_later_lit (by kernel_rfl) (by kernel_rfl) ?_
    repeat (any_goals (first | go_big_quiet_step (first | (go_at_call 24; exact Calls.later (frame_any _ _ _ _)) | (go_at_call 13; exact laterSI (hlen.out _)) | (go_at_call 11; exact Calls.laterB (htw.out _)) | (go_at_call 18; with_reducible exact Calls.laterB (hdr.out _)) | (go_at_call 18; with_reducible exact Calls.laterB (hdm.out _))) | quiet_step (first | (go_at_call 24; exact Calls.later (frame_any _ _ _ _)) | (go_at_call 13; exact laterSI (hlen.out _)) | (go_at_call 11; exact Calls.laterB (htw.out _)) | (go_at_call 18; with_reducible exact Calls.laterB (hdr.out _)) | (go_at_call 18; with_reducible exact Calls.laterB (hdm.out _)))))
    refine wpQuiet_nil ?_
    intro _ hw'
    obtain ⟨y, hw''⟩ := hw'
    subst hw''
    have N2 := Lib.hid (N.out.below y.h)
    clear l0 l1 l2 hlen hdr hdm htw h1 C2 N
    generalize y.w = Y at *
    have N := N2
    clear N2
    have T1 := trivial
    go_upto_region 20 with (first
        | (have z := T1; go_at_call 24; refine (frame_any 0 1 _ _).mono ?_; rintro e w1 ⟨rfl, hb⟩; have N' := Lib.hid (N.out.below hb); clear N hb; have N := N'; clear N'; clear T1 z; have T2 := trivial)
        | (have z := T2; go_at_call 24; refine (frame_any 2 1 _ _).mono ?_; rintro e w3 ⟨rfl, hb⟩; have N' := Lib.hid ((N.out.below hb).more (bel1 w3 (.cells #[.int .i64 0, .int .i64 1, .string ⟨#[97]⟩, .int .i64 2, .int .i64 1, .string ⟨#[98]⟩] 31))); have L := Lib.hid (sli_lit EF w3 [fa, (2, 1, ⟨#[98]⟩)] 2 _ 31 rfl rfl (by unfold maxLen; omega)); clear N hb; have N := N'; clear N'; clear T2 z; have T3 := trivial)
        | (have z := T3; go_at_call 9; refine (n_send (n := 2) N.out gk4 L.out rfl (by decide) (fun b off e => by simp at e; right; simp; omega)).mono ?_; rintro e w1 ⟨rfl, hs⟩; have N' := Lib.hid (show NE W w1 (fun _ => False) (W.heap.size + 1) W.heap.size k5 from hs.1.less (fun k c => c.elim)); clear N hs L; have N := N'; clear N'; clear T3 z; have T4 := trivial)
        | (have z := T4; go_at_call 16; refine (c_cut5 N.out).mono ?_; rintro e w1 ⟨rfl, hs⟩; have N' := Lib.hid (hs.1); clear N hs; have N := N'; clear N'; clear T4 z; have T5 := trivial)
        | (have z := T5; go_at_call 16; refine (c_cut6 N.out).mono ?_; rintro e w1 ⟨rfl, hs⟩; have N' := Lib.hid (hs.1); clear N hs; have N := N'; clear N'; clear T5 z; have T6 := trivial)
        | (have z := T6; go_at_call 25; refine (n_heal N.out).mono ?_; rintro e w1 ⟨rfl, hs⟩; have N' := Lib.hid (hs.1); clear N hs; have N := N'; clear N'; clear T6 z; have T7 := trivial)
        | (have z := T7; go_at_call 17; refine (c_take8 N.out).mono ?_; rintro e w5 ⟨rfl, hs⟩; have N' := Lib.hid ((hs.1.more (bel1 w5 (.cells #[.int .i64 (2), .int .i64 (1), .string ⟨#[98]⟩] 31))).less (F' := fun k => k = w5.heap.size) (fun k hk => .inr (by subst hk; simp))); have C1 := Lib.hid (heap_alloc_new w5 (.cells #[.int .i64 (2), .int .i64 (1), .string ⟨#[98]⟩] 31)); clear N hs; have N := N'; clear N'; clear T7 z; have T8 := trivial))
    generalize w5.alloc (.cells #[.int .i64 (2), .int .i64 (1), .string ⟨#[98]⟩] 31) = X2 at *
    generalize w5.heap.size = nb at *
    have mixed : Try.prog.follows .mixedOrders = true := by kernel_rfl
    obtain ⟨y0, y1, y2⟩ : X2.cell? ⟨nb, 0, none⟩ = some (.int .i64 2) ∧ X2.cell? ⟨nb, 1, none⟩ = some (.int .i64 1) ∧ X2.cell? ⟨nb, 2, none⟩ = some (.string ⟨#[98]⟩) := ⟨(cell_of C1.out 0 rfl).1, (cell_of C1.out 1 rfl).1, (cell_of C1.out 2 rfl).1⟩
    have C := C1
    have h1 : ∀ V, (binOp .neq 31 (.agg #[.int .i64 2, .int .i64 1, .string ⟨#[98]⟩]) (.agg #[.int .i64 2, .int .i64 1, .string ⟨#[98]⟩])).run Try.prog V = .ok (.bool false) V := fun V => (neq31 V 2 1 2 1 ⟨#[98]⟩ ⟨#[98]⟩).trans (by rw [(eqF_iff _ _).2 rfl]; rfl)
    clear T8 C1
    have T1 := trivial
    go_region_held3 (fun w' => w'.cell? ⟨nb, 0, none⟩ = some (.int .i64 2) ∧ w'.cell? ⟨nb, 1, none⟩ = some (.int .i64 1) ∧ w'.cell? ⟨nb, 2, none⟩ = some (.string ⟨#[98]⟩)) (first | exact ⟨y0, y1, y2⟩ | go_keep) (first
        | (have z := T1; go_at_call 24; refine (frame_any 2 1 _ _).mono ?_; rintro e w1 ⟨rfl, hb⟩; have hB := grew_trans ((Below.refl _ X2).drew) hb; have N' := Lib.hid (N.out.below hB); have C' := Lib.hid (blk_below C.out hB); clear N C hb hB; have N := N'; clear N'; have C := C'; clear C' y0 y1 y2; obtain ⟨y0, y1, y2⟩ : w1.cell? ⟨nb, 0, none⟩ = some (.int .i64 2) ∧ w1.cell? ⟨nb, 1, none⟩ = some (.int .i64 1) ∧ w1.cell? ⟨nb, 2, none⟩ = some (.string ⟨#[98]⟩) := ⟨(cell_of C.out 0 rfl).1, (cell_of C.out 1 rfl).1, (cell_of C.out 2 rfl).1⟩; clear T1 z; have T2 := trivial)
        | (have z := T2; go_at_call 16; refine (c_cut9a N.out).mono ?_; rintro e w1 ⟨rfl, hs⟩; have C' := Lib.hid (hs.2.1 _ _ rfl C.out); have N' := Lib.hid (hs.1); clear N hs C; have N := N'; clear N'; have C := C'; clear C' y0 y1 y2; obtain ⟨y0, y1, y2⟩ : w1.cell? ⟨nb, 0, none⟩ = some (.int .i64 2) ∧ w1.cell? ⟨nb, 1, none⟩ = some (.int .i64 1) ∧ w1.cell? ⟨nb, 2, none⟩ = some (.string ⟨#[98]⟩) := ⟨(cell_of C.out 0 rfl).1, (cell_of C.out 1 rfl).1, (cell_of C.out 2 rfl).1⟩; clear T2 z; have T3 := trivial)
        | (have z := T3; go_at_call 16; refine (c_cut9b N.out).mono ?_; rintro e w1 ⟨rfl, hs⟩; have C' := Lib.hid (hs.2.1 _ _ rfl C.out); have N' := Lib.hid (hs.1); clear N hs C; have N := N'; clear N'; have C := C'; clear C' y0 y1 y2; obtain ⟨y0, y1, y2⟩ : w1.cell? ⟨nb, 0, none⟩ = some (.int .i64 2) ∧ w1.cell? ⟨nb, 1, none⟩ = some (.int .i64 1) ∧ w1.cell? ⟨nb, 2, none⟩ = some (.string ⟨#[98]⟩) := ⟨(cell_of C.out 0 rfl).1, (cell_of C.out 1 rfl).1, (cell_of C.out 2 rfl).1⟩; clear T3 z; have T4 := trivial)
        | (have z := T4; go_at_call 16; refine (c_cut9c N.out).mono ?_; rintro e w1 ⟨rfl, hs⟩; have C' := Lib.hid (hs.2.1 _ _ rfl C.out); have N' := Lib.hid (hs.1); clear N hs C; have N := N'; clear N'; have C := C'; clear C' y0 y1 y2; obtain ⟨y0, y1, y2⟩ : w1.cell? ⟨nb, 0, none⟩ = some (.int .i64 2) ∧ w1.cell? ⟨nb, 1, none⟩ = some (.int .i64 1) ∧ w1.cell? ⟨nb, 2, none⟩ = some (.string ⟨#[98]⟩) := ⟨(cell_of C.out 0 rfl).1, (cell_of C.out 1 rfl).1, (cell_of C.out 2 rfl).1⟩; clear T4 z; have T5 := trivial)
        | (have z := T5; go_at_call 19; refine (c_join9 N.out).mono ?_; rintro e w1 ⟨rfl, hs⟩; have C' := Lib.hid (hs.2.1 _ _ rfl C.out); have N' := Lib.hid (hs.1); clear N hs C; have N := N'; clear N'; have C := C'; clear C' y0 y1 y2; obtain ⟨y0, y1, y2⟩ : w1.cell? ⟨nb, 0, none⟩ = some (.int .i64 2) ∧ w1.cell? ⟨nb, 1, none⟩ = some (.int .i64 1) ∧ w1.cell? ⟨nb, 2, none⟩ = some (.string ⟨#[98]⟩) := ⟨(cell_of C.out 0 rfl).1, (cell_of C.out 1 rfl).1, (cell_of C.out 2 rfl).1⟩; clear T5 z; have T6 := trivial)
        | (have z := T6; go_at_call 18; refine (c_drop9 N.out).mono ?_; rintro e w1 ⟨rfl, hs⟩; have C' := Lib.hid (hs.2.1 _ _ rfl C.out); have N' := Lib.hid (hs.1); clear N hs C; have N := N'; clear N'; have C := C'; clear C' y0 y1 y2; obtain ⟨y0, y1, y2⟩ : w1.cell? ⟨nb, 0, none⟩ = some (.int .i64 2) ∧ w1.cell? ⟨nb, 1, none⟩ = some (.int .i64 1) ∧ w1.cell? ⟨nb, 2, none⟩ = some (.string ⟨#[98]⟩) := ⟨(cell_of C.out 0 rfl).1, (cell_of C.out 1 rfl).1, (cell_of C.out 2 rfl).1⟩; clear T6 z; have T7 := trivial)
        | (have z := T7; go_at_call 13; refine (c_len10 N.out).mono ?_; rintro e w1 ⟨rfl, rfl⟩; clear T7 z; have T8 := trivial))
    all_goals (
      have B := Lib.hid N.out.bel
      clear N C y0 y1 y2 h1 T8
      have T1 := trivial
      go_wp2_with (first
          | (have z := T1; go_at_call 24; refine (frame_any 0 1 _ _).mono ?_; rintro e w3 ⟨rfl, hb⟩; have B' := Lib.hid (grew_trans B.out (grew_trans hb (bel1 w3 (.cells #[.int .i64 (0), .int .i64 (1), .string ⟨#[97]⟩] 31)))); have L := Lib.hid (sli_lit EF w3 [fa] 1 _ 31 rfl rfl (by unfold maxLen; omega)); clear B hb; have B := B'; clear B'; clear T1 z; have T2 := trivial)
          | (have z := T2; go_at_call 9; refine (send_nil (n := 1) L.out rfl).mono ?_; rintro e w1 ⟨rfl, hb⟩; have B' := Lib.hid (grew_trans B.out hb); clear B hb; have B := B'; clear B'; clear L; clear T2 z; have T3 := trivial)
          | (have z := T3; go_at_call 25; refine (heal_nil _).mono ?_; rintro e w1 ⟨rfl, rfl⟩; clear T3 z; have T4 := trivial)
          | (have z := T4; go_at_call 17; refine (take_nil 0 _).mono ?_; rintro e w1 ⟨rfl, hb⟩; have B' := Lib.hid (grew_trans B.out (grew_trans hb (bel1 w1 (.cells #[.int .i64 (0), .int .i64 (0), .string ⟨#[]⟩] 31)))); clear B hb; have B := B'; clear B'; clear T4 z; have T5 := trivial)
          | (have z := T5; go_at_call 22; refine (sent_nil _).mono ?_; rintro e w1 ⟨rfl, hb⟩; have B' := Lib.hid (grew_trans B.out hb); clear B hb; have B := B'; clear B'; clear T5 z; have T6 := trivial)
          | (have z := T6; go_at_call 13; refine (len_nil _).mono ?_; rintro e w1 ⟨rfl, rfl⟩; clear T6 z; have T7 := trivial)
          | (have z := T7; go_at_call 18; refine (drop_nil 0 _).mono ?_; rintro e w1 ⟨rfl, hb⟩; have B' := Lib.hid (grew_trans B.out hb); clear B hb; have B := B'; clear B'; clear T7 z; have T8 := trivial)
          | (have z := T8; go_at_call 11; refine (twice_nil 0 _).mono ?_; rintro e w1 ⟨rfl, hb⟩; have B' := Lib.hid (grew_trans B.out hb); clear B hb; have B := B'; clear B'; clear T8 z; have T9 := trivial)
          | (have z := T9; go_at_call 16; refine (cut_nil 0 1 _).mono ?_; rintro e w1 ⟨rfl, hb⟩; have B' := Lib.hid (grew_trans B.out hb); clear B hb; have B := B'; clear B'; clear T9 z; have T10 := trivial)
          | (have z := T10; go_at_call 19; refine (join_nil 0 1 _).mono ?_; rintro e w1 ⟨rfl, hb⟩; have B' := Lib.hid (grew_trans B.out hb); clear B hb; have B := B'; clear B'; clear T10 z; have T11 := trivial)
          | (have z := T11; go_at_call 14; refine (works_any _).mono ?_; rintro e w1 ⟨rfl, hb⟩; have B' := Lib.hid (grew_trans B.out hb); clear B hb; have B := B'; clear B'; clear T11 z; have T12 := trivial))
      go_ret
      exact retB rfl B.out)
end Go.Proofs.Ytmiaifbpepfbnaa
