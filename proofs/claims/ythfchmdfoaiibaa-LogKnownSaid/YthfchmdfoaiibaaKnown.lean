/- The chapter's examples. -/
import Derived.Test.YthfchmdfoaiibaaKnownP
namespace Go.Proofs.Ythfchmdfoaiibaa
open Go.RowKit Go.Joins

theorem sl_nil (W : World) : Sl W none 0 [] := ⟨fun i hi => by simp at hi, fun _ => rfl, Nat.le_refl _, Nat.zero_le _, fun ad e => by cases e⟩
theorem blkn (w : World) (o : Obj) : (w.alloc o).heap[w.heap.size]? = some o := by
  show (w.heap.push o)[w.heap.size]? = _
  simp
theorem blkk {w w' : World} {o : Obj} (h : Below (w.alloc o).heap.size (w.alloc o) w') : w'.heap[w.heap.size]? = some o := (h.block _ (by simp)).trans (blkn w o)
set_option linter.unusedSimpArgs false
set_option maxRecDepth 100000 in
set_option maxHeartbeats 8000000 in
theorem lawKnown (w : World) : Calls Try.prog 10 #[] w (RetB true w) := by
  have T1 := trivial
  go_enter Try.func10, Try.ntmps10
  go_upto_region 5 with (first
    | (have q := T1; go_at_call 29; refine (commit_new 1 1 _).mono ?_; rintro e w1 ⟨rfl, b1⟩; clear T1 q; have T2 := trivial)
    | (have q := T2; go_at_call 30; refine (epoch_new 1 _).mono ?_; rintro e w2 ⟨rfl, b2⟩; have c1 : EC w2 w1.heap.size 0 (1, 3, 0, 1) := ⟨keepc' (World.cell?_alloc_at _ _ _ _ rfl) b2, keepc' (World.cell?_alloc_at _ _ _ _ rfl) b2, keepc' (World.cell?_alloc_at _ _ _ _ rfl) b2, keepc' (World.cell?_alloc_at _ _ _ _ rfl) b2⟩; clear T2 q; have T3 := trivial)
    | (have q := T3; go_at_call 31; refine (guid_new 1 1 _).mono ?_; rintro e w3 ⟨rfl, b3⟩; have hbl : w3.heap[w2.heap.size]? = some (.cells #[.int .u64 1, .int .i64 1, .int .u64 0, .int .u64 0] 33) := blkk b3; have q0 := cell_of_block hbl 2; have q1 := cell_of_block hbl 3; have q2 := unfrozen_of_block hbl 2; have q3 := unfrozen_of_block hbl 3; simp at q0 q1; have C1 := Lib.hid (ec_below (ec_below c1 (al _ _)) b3); have HB := Lib.hid hbl; have B3 := Lib.hid b3; clear c1 T3 q hbl))
  have C2 : Hid (EC ((w3.setCell ⟨w2.heap.size, 2, none⟩ (.int .u64 1)).setCell ⟨w2.heap.size, 3, none⟩ (.int .u64 1)) w2.heap.size 0 (1, 1, 1, 1)) := by
    have hb := block_setCell (i := 3) (block_setCell (i := 2) HB.out (.int .u64 1)) (.int .u64 1)
    exact ⟨cell_of_block hb 0, cell_of_block hb 1, cell_of_block hb 2, cell_of_block hb 3⟩
  have C1' : Hid (EC ((w3.setCell ⟨w2.heap.size, 2, none⟩ (.int .u64 1)).setCell ⟨w2.heap.size, 3, none⟩ (.int .u64 1)) w1.heap.size 0 (1, 3, 0, 1)) := by
    have hne : w2.heap.size ≠ w1.heap.size := by have := b2.size; simp at this; omega
    obtain ⟨g1, g2, g3, g4⟩ := C1.out
    have far : ∀ j v, w3.cell? ⟨w1.heap.size, j, none⟩ = some v → ((w3.setCell ⟨w2.heap.size, 2, none⟩ (.int .u64 1)).setCell ⟨w2.heap.size, 3, none⟩ (.int .u64 1)).cell? ⟨w1.heap.size, j, none⟩ = some v := fun j v h => by
      rw [World.cell?_setCell_other _ _ _ _ (fun e => hne (by injection e)), World.cell?_setCell_other _ _ _ _ (fun e => hne (by injection e))]
      exact h
    exact ⟨far _ _ g1, far _ _ g2, far _ _ g3, far _ _ g4⟩
  have BW : Hid (Below w.heap.size w ((w3.setCell ⟨w2.heap.size, 2, none⟩ (.int .u64 1)).setCell ⟨w2.heap.size, 3, none⟩ (.int .u64 1))) := by
    have h0 := grew_trans b1 ((grew_trans (al _ _) b2))
    have h1 := h0.size
    exact ((grew_trans (grew_trans h0 (al _ _)) B3.out).setCell h1 _).setCell h1 _
  generalize (w3.setCell ⟨w2.heap.size, 2, none⟩ (.int .u64 1)).setCell ⟨w2.heap.size, 3, none⟩ (.int .u64 1) = W5 at *
  generalize w2.heap.size = p2 at *
  generalize w1.heap.size = p1 at *
  clear HB C1 B3 q0 q1 q2 q3 b1 b2
  refine wp_region_rel RK (by kernel_rfl) (by kernel_rfl) RK_keep ?_ ?_
  · intro i o ho a' W hW hfr hdep
    have D1 := ec_below C1'.out hW
    have D2 := ec_below C2.out hW
    have ep1 : a'.tmps[1]? = some (.pointer (some ⟨p1, 0, none⟩)) := (hfr 1 (dst_not (by kernel_rfl))).trans rfl
    have ep2 : a'.tmps[2]? = some (.pointer (some ⟨p2, 0, none⟩)) := (hfr 2 (dst_not (by kernel_rfl))).trans rfl
    obtain ⟨d1, d2, d3, d4⟩ := D1
    obtain ⟨f1, f2, f3, f4⟩ := D2
    match i, ho with
    | 0, ho =>
      cases ho
      refine relStep_free rfl ?_
      simp [execOp, go_sem, relUpon]
      exact (epoch_new 1 _).mono (by rintro e w1 ⟨rfl, b1⟩; exact ⟨_, rfl, b1, rfl⟩)
    | 1, ho =>
      cases ho
      refine relStep_free rfl ?_
      simp [execOp, go_sem, relUpon]
      exact (lease_new 1 _).mono (by rintro e w1 ⟨rfl, b1⟩; exact ⟨_, rfl, b1, rfl⟩)
    | 2, ho =>
      cases ho
      refine relStep_free rfl ?_
      simp [execOp, go_sem, relUpon]
      exact (commit_new 1 1 _).mono (by rintro e w1 ⟨rfl, b1⟩; exact ⟨_, rfl, b1, rfl⟩)
    | 3, ho =>
      cases ho
      refine relStep_free rfl ?_
      simp [execOp, go_sem, relUpon]
      exact (epoch_new 2 _).mono (by rintro e w1 ⟨rfl, b1⟩; exact ⟨_, rfl, b1, rfl⟩)
    | 4, ho =>
      cases ho
      obtain ⟨_, e0, rfl⟩ := hdep ⟨0, .data⟩ (by simp) rfl _ _ rfl rfl
      obtain ⟨_, e1, rfl⟩ := hdep ⟨1, .data⟩ (by simp) rfl _ _ rfl rfl
      obtain ⟨_, e2, rfl⟩ := hdep ⟨2, .data⟩ (by simp) rfl _ _ rfl rfl
      obtain ⟨_, e3, rfl⟩ := hdep ⟨3, .data⟩ (by simp) rfl _ _ rfl rfl
      refine relStep_free rfl ?_
      simp [execOp, go_sem, entV, e0, e1, e2, e3]
      exact ⟨al _ _, slV_lit (kn.getD 0 []) 4 rfl (by unfold maxLen; omega)⟩
    | 5, ho =>
      cases ho
      refine relStep_free rfl ?_
      simp [execOp, go_sem, relUpon]
      exact (epoch_new 1 _).mono (by rintro e w1 ⟨rfl, b1⟩; exact ⟨_, rfl, b1, rfl⟩)
    | 6, ho =>
      cases ho
      refine relStep_free rfl ?_
      simp [execOp, go_sem, relUpon]
      exact (epoch_new 1 _).mono (by rintro e w1 ⟨rfl, b1⟩; exact ⟨_, rfl, b1, rfl⟩)
    | 7, ho =>
      cases ho
      obtain ⟨_, e0, rfl⟩ := hdep ⟨5, .data⟩ (by simp) rfl _ _ rfl rfl
      obtain ⟨_, e1, rfl⟩ := hdep ⟨6, .data⟩ (by simp) rfl _ _ rfl rfl
      refine relStep_free rfl ?_
      simp [execOp, go_sem, entV, e0, e1]
      exact ⟨al _ _, slV_lit (kn.getD 2 []) 2 rfl (by unfold maxLen; omega)⟩
    | 8, ho =>
      cases ho
      refine relStep_free rfl ?_
      simp [execOp, go_sem, relUpon]
      exact (epoch_new 2 _).mono (by rintro e w1 ⟨rfl, b1⟩; exact ⟨_, rfl, b1, rfl⟩)
    | 9, ho =>
      cases ho
      refine relStep_free rfl ?_
      simp [execOp, go_sem, relUpon]
      exact (lease_new 1 _).mono (by rintro e w1 ⟨rfl, b1⟩; exact ⟨_, rfl, b1, rfl⟩)
    | 10, ho =>
      cases ho
      obtain ⟨_, e0, rfl⟩ := hdep ⟨8, .data⟩ (by simp) rfl _ _ rfl rfl
      obtain ⟨_, e1, rfl⟩ := hdep ⟨9, .data⟩ (by simp) rfl _ _ rfl rfl
      refine relStep_free rfl ?_
      simp [execOp, go_sem, entV, e0, e1]
      exact ⟨al _ _, slV_lit (kn.getD 3 []) 2 rfl (by unfold maxLen; omega)⟩
    | 11, ho =>
      cases ho
      refine relStep_free rfl ?_
      simp [execOp, go_sem, relUpon]
      exact (epoch_new 0 _).mono (by rintro e w1 ⟨rfl, b1⟩; exact ⟨_, rfl, b1, rfl⟩)
    | 12, ho =>
      cases ho
      obtain ⟨_, e0, rfl⟩ := hdep ⟨11, .data⟩ (by simp) rfl _ _ rfl rfl
      refine relStep_free rfl ?_
      simp [execOp, go_sem, entV, e0]
      exact ⟨al _ _, slV_lit (kn.getD 4 []) 1 rfl (by unfold maxLen; omega)⟩
    | 13, ho =>
      cases ho
      refine relStep_free rfl ?_
      simp [execOp, go_sem, ep1, ep2, f1, f2, f3, f4, d1, d2, d3, d4]
      exact ⟨Below.refl _ _, rfl⟩
    | 14, ho =>
      cases ho
      obtain ⟨_, e0, rfl⟩ := hdep ⟨13, .data⟩ (by simp) rfl _ _ rfl rfl
      refine relStep_free rfl ?_
      simp [execOp, go_sem, entV, e0]
      exact ⟨al _ _, slV_lit (kn.getD 5 []) 1 rfl (by unfold maxLen; omega)⟩
    | 15, ho =>
      cases ho
      refine relStep_free rfl ?_
      simp [execOp, go_sem, ep1, ep2, f1, f2, f3, f4, d1, d2, d3, d4]
      exact ⟨Below.refl _ _, rfl⟩
    | 16, ho =>
      cases ho
      obtain ⟨_, e0, rfl⟩ := hdep ⟨15, .data⟩ (by simp) rfl _ _ rfl rfl
      refine relStep_free rfl ?_
      simp [execOp, go_sem, entV, e0]
      exact ⟨al _ _, slV_lit (kn.getD 6 []) 1 rfl (by unfold maxLen; omega)⟩
    | 17, ho =>
      cases ho
      refine relStep_free rfl ?_
      simp [execOp, go_sem]
      exact ⟨Below.refl _ _, rfl⟩
    | 18, ho =>
      cases ho
      obtain ⟨_, e0, rfl⟩ := hdep ⟨17, .data⟩ (by simp) rfl _ _ rfl rfl
      refine relStep_free rfl ?_
      simp [execOp, go_sem, entV, e0]
      exact ⟨al _ _, slV_lit (kn.getD 7 []) 1 rfl (by unfold maxLen; omega)⟩
    | 19, ho =>
      cases ho
      refine relStep_free rfl ?_
      simp [execOp, go_sem]
      exact ⟨Below.refl _ _, rfl⟩
    | 20, ho =>
      cases ho
      obtain ⟨_, e0, rfl⟩ := hdep ⟨19, .data⟩ (by simp) rfl _ _ rfl rfl
      refine relStep_free rfl ?_
      simp [execOp, go_sem, entV, e0]
      exact ⟨al _ _, slV_lit (kn.getD 8 []) 1 rfl (by unfold maxLen; omega)⟩
    | 21, ho =>
      cases ho
      refine relStep_free rfl ?_
      simp [execOp, go_sem, relUpon]
      exact (guid_new 1 0 _).mono (by rintro e w1 ⟨rfl, b1⟩; exact ⟨_, rfl, b1, rfl⟩)
    | 22, ho =>
      cases ho
      obtain ⟨_, e0, rfl⟩ := hdep ⟨21, .data⟩ (by simp) rfl _ _ rfl rfl
      refine relStep_free rfl ?_
      simp [execOp, go_sem, e0]
      exact ⟨Below.refl _ _, rfl⟩
    | 23, ho =>
      cases ho
      obtain ⟨_, e0, rfl⟩ := hdep ⟨22, .data⟩ (by simp) rfl _ _ rfl rfl
      refine relStep_free rfl ?_
      simp [execOp, go_sem, entV, e0]
      exact ⟨al _ _, slV_lit (kn.getD 9 []) 1 rfl (by unfold maxLen; omega)⟩
    | 24, ho =>
      cases ho
      obtain ⟨_, e0, ⟨a0, c0, rfl, h0⟩⟩ := hdep ⟨4, .data⟩ (by simp) rfl _ _ rfl rfl
      obtain ⟨_, e1, ⟨a1, c1, rfl, h1⟩⟩ := hdep ⟨7, .data⟩ (by simp) rfl _ _ rfl rfl
      obtain ⟨_, e2, ⟨a2, c2, rfl, h2⟩⟩ := hdep ⟨10, .data⟩ (by simp) rfl _ _ rfl rfl
      obtain ⟨_, e3, ⟨a3, c3, rfl, h3⟩⟩ := hdep ⟨12, .data⟩ (by simp) rfl _ _ rfl rfl
      obtain ⟨_, e4, ⟨a4, c4, rfl, h4⟩⟩ := hdep ⟨14, .data⟩ (by simp) rfl _ _ rfl rfl
      obtain ⟨_, e5, ⟨a5, c5, rfl, h5⟩⟩ := hdep ⟨16, .data⟩ (by simp) rfl _ _ rfl rfl
      obtain ⟨_, e6, ⟨a6, c6, rfl, h6⟩⟩ := hdep ⟨18, .data⟩ (by simp) rfl _ _ rfl rfl
      obtain ⟨_, e7, ⟨a7, c7, rfl, h7⟩⟩ := hdep ⟨20, .data⟩ (by simp) rfl _ _ rfl rfl
      obtain ⟨_, e8, ⟨a8, c8, rfl, h8⟩⟩ := hdep ⟨23, .data⟩ (by simp) rfl _ _ rfl rfl
      refine relStep_free rfl ?_
      simp [execOp, go_sem, e0, e1, e2, e3, e4, e5, e6, e7, e8]
      refine ⟨al _ _, _, rfl, fun i hi => ?_⟩
      match i, hi with
      | 0, _ => exact ⟨_, World.cell?_alloc_at _ _ _ _ rfl, ⟨_, _, rfl, h0.below (al _ _)⟩⟩
      | 1, _ => exact ⟨_, World.cell?_alloc_at _ _ _ _ rfl, ⟨_, _, rfl, sl_nil _⟩⟩
      | 2, _ => exact ⟨_, World.cell?_alloc_at _ _ _ _ rfl, ⟨_, _, rfl, h1.below (al _ _)⟩⟩
      | 3, _ => exact ⟨_, World.cell?_alloc_at _ _ _ _ rfl, ⟨_, _, rfl, h2.below (al _ _)⟩⟩
      | 4, _ => exact ⟨_, World.cell?_alloc_at _ _ _ _ rfl, ⟨_, _, rfl, h3.below (al _ _)⟩⟩
      | 5, _ => exact ⟨_, World.cell?_alloc_at _ _ _ _ rfl, ⟨_, _, rfl, h4.below (al _ _)⟩⟩
      | 6, _ => exact ⟨_, World.cell?_alloc_at _ _ _ _ rfl, ⟨_, _, rfl, h5.below (al _ _)⟩⟩
      | 7, _ => exact ⟨_, World.cell?_alloc_at _ _ _ _ rfl, ⟨_, _, rfl, h6.below (al _ _)⟩⟩
      | 8, _ => exact ⟨_, World.cell?_alloc_at _ _ _ _ rfl, ⟨_, _, rfl, h7.below (al _ _)⟩⟩
      | 9, _ => exact ⟨_, World.cell?_alloc_at _ _ _ _ rfl, ⟨_, _, rfl, h8.below (al _ _)⟩⟩
    | 25, ho =>
      cases ho
      obtain ⟨_, e0, ⟨b, rfl, -⟩⟩ := hdep ⟨24, .data⟩ (by simp) rfl _ _ rfl rfl
      refine relStep_free rfl ?_
      simp [execOp, go_sem, e0]
      exact ⟨Below.refl _ _, rfl⟩
    | 26, ho =>
      cases ho
      refine relStep_free rfl ?_
      simp [execOp, go_sem]
      exact ⟨Below.refl _ _, rfl⟩

    | n + 27, ho => simp at ho
  · intro vs W hW hR
    obtain ⟨b, e24, hS⟩ := hR 24 _ _ rfl rfl
    have e25 : vs 25 = .int .i64 10 := hR 25 _ _ rfl rfl
    have e26 : vs 26 = .int .i64 0 := hR 26 _ _ rfl rfl
    have HS := Lib.hid hS
    have BW2 := Lib.hid (grew_trans BW.out hW)
    clear hS hR
    simp [putsFrom, Act.put, e24, e25, e26]
    clear e24 e25 e26
    generalize vs 0 = x0
    generalize vs 1 = x1
    generalize vs 2 = x2
    generalize vs 3 = x3
    generalize vs 4 = x4
    generalize vs 5 = x5
    generalize vs 6 = x6
    generalize vs 7 = x7
    generalize vs 8 = x8
    generalize vs 9 = x9
    generalize vs 10 = x10
    generalize vs 11 = x11
    generalize vs 12 = x12
    generalize vs 13 = x13
    generalize vs 14 = x14
    generalize vs 15 = x15
    generalize vs 16 = x16
    generalize vs 17 = x17
    generalize vs 18 = x18
    generalize vs 19 = x19
    generalize vs 20 = x20
    generalize vs 21 = x21
    generalize vs 22 = x22
    generalize vs 23 = x23
    clear hW
    go_wp2
    go_loopg [3, 4, 5, 44] 10 (fun k v3 v4 v5 v44 wr => ∃ i : Nat, i + k = 10 ∧ v44 = .int .i64 (i : Int) ∧ Below W.heap.size W wr)
    case atStart => exact ⟨0, rfl, rfl, Below.refl _ _⟩
    case round =>
      obtain ⟨i, hik, rfl, hB⟩ := hrel
      by_cases hlt : i < 10
      · obtain ⟨_, hu, a1, c1, rfl, hs1⟩ := HS.out i hlt
        have hu2 := keepc' hu hB
        have hs2 := Lib.hid (hs1.below hB)
        have hwf := Lib.hid (kn_wf i hlt)
        have hck := kn_ck i hlt
        clear hu hs1
        generalize kn.getD i [] = L at *
        have hli : (i : Int) < 10 := by omega
        by_cases h2 : 2 < i
        · rw [if_pos h2] at hck
          have HC := Lib.hid hck
          have h2i : (2 : Int) < (i : Int) := by omega
          clear hck h2 hlt
          go_wp2_with (go_at_call 24; refine (check_len _ _ _ L rfl _ hs2.out hwf.out _ HC.out).mono ?_; rintro e wy ⟨rfl, hby⟩)
          go_roundg (gk - 1)
          case measure => omega
          case rel => exact ⟨i + 1, by omega, by simp, grew_trans hB hby⟩
        · rw [if_neg h2] at hck
          have HC := Lib.hid hck
          have h2i : (i : Int) ≤ 2 := by omega
          clear hck h2 hlt
          go_wp2_with (go_at_call 24; refine (check_len _ _ _ L rfl _ hs2.out hwf.out _ HC.out).mono ?_; rintro e wy ⟨rfl, hby⟩)
          go_roundg (gk - 1)
          case measure => omega
          case rel => exact ⟨i + 1, by omega, by simp, grew_trans hB hby⟩
      · have BW3 := Lib.hid (grew_trans BW2.out hB)
        obtain rfl : i = 10 := by omega
        clear HS BW2 BW hB C1' C2 hlt
        obtain ⟨V1, hV1⟩ : ∃ V, V = wr := ⟨_, rfl⟩
        subst hV1
        go_wp2
        go_loopg [6, 7] 300 (fun k v6 v7 wr => ∃ i : Nat, i + k = 300 ∧ v7 = .int .i64 (i : Int) ∧ OwnE wr V1.heap.size v6 (List.replicate i (1, 1, 0, 0)) ∧ Below V1.heap.size V1 wr)
        case atStart => exact ⟨0, rfl, rfl, ownE_nil _ _, Below.refl _ _⟩
        case round =>
          obtain ⟨i, hik, rfl, hown, hB⟩ := hrel
          have HO := Lib.hid hown
          clear hown
          by_cases hlt : i < 300
          · have hli : (i : Int) < 300 := by omega
            have HI := Lib.hid hlt
            clear hlt
            go_wp2_with (first
              | (go_at_call 30; refine (epoch_new 1 _).mono ?_; rintro e w2 ⟨rfl, b2⟩; have O2 := Lib.hid (own_below (own_below HO.out b2) (al w2 (.cells #[.int .u64 1, .int .i64 1, .int .u64 0, .int .u64 0] 33))); have B2 := Lib.hid (grew_trans (grew_trans hB b2) (al w2 (.cells #[.int .u64 1, .int .i64 1, .int .u64 0, .int .u64 0] 33))); have S2 := Lib.hid (sl_lit w2 [(1, 1, 0, 0)] 1 _ rfl rfl (by unfold maxLen; omega)))
              | (at_builtin; refine app_ents rfl _ _ rfl V1.heap.size _ (List.replicate i (1, 1, 0, 0)) rfl O2.out _ 1 _ [(1, 1, 0, 0)] rfl rfl S2.out.ents (by simp) (by have := HI.out; simp; omega) B2.out.size ?_; intro v' w' hown' hgrow; have B3 := Lib.hid (B2.out.grown hgrow B2.out.size (fun j hj => (World.ownsRow.lt O2.out j hj).1)); have O3 := Lib.hid hown'))
            go_roundg (gk - 1)
            case measure => have := HI.out; omega
            case rel => exact ⟨i + 1, by have := HI.out; omega, by simp, by rw [List.replicate_succ']; exact O3.out, B3.out⟩
          · obtain rfl : i = 300 := by omega
            have hO := HO.out.mono (base' := w.heap.size) (Below.size BW3.out)
            obtain ⟨g, c6, rfl⟩ := own_some hO (by simp)
            rw [List.length_replicate] at *
            have BW := Lib.hid (grew_trans BW3.out hB)
            have O := Lib.hid hO
            clear hO hB HO BW3 hlt
            have K0 := trivial
            go_upto_region 21 with (first
              | (have q := K0; go_at_call 24; refine (check_len _ _ 300 (List.replicate 300 (1, 1, 0, 0)) (by simp) _ (own_slx O.out) (lg_wf 300) 0 lg_ck).mono ?_; rintro e w9 ⟨rfl, b⟩; have BW' := Lib.hid (grew_trans BW.out b); clear BW; have BW := BW'; clear BW'; have O' := Lib.hid (own_below O.out b); clear O; have O := O'; clear O'; clear K0 q; have K1 := trivial)
              | (have q := K1; go_at_call 30; refine (epoch_new 1 _).mono ?_; rintro e w8 ⟨rfl, b⟩; have S2 := Lib.hid (sl_lit w8 [(1, 1, 0, 0)] 1 _ rfl rfl (by unfold maxLen; omega)); have BW' := Lib.hid (grew_trans BW.out (grew_trans b (al w8 (.cells #[.int .u64 1, .int .i64 1, .int .u64 0, .int .u64 0] 33)))); clear BW; have BW := BW'; clear BW'; have O' := Lib.hid (own_below O.out (grew_trans b (al w8 (.cells #[.int .u64 1, .int .i64 1, .int .u64 0, .int .u64 0] 33)))); clear O; have O := O'; clear O'; clear K1 q; have K2 := trivial)
              | (have q := K2; refine wp_app_keep _ _ rfl w.heap.size g 300 c6 (List.replicate 300 (1, 1, 0, 0)) rfl (by simp) O.out _ 1 _ [(1, 1, 0, 0)] rfl rfl S2.out.ents 301 rfl (by simp) ?_; intro a7 c7 w9 hs7 ho7 hgrow; have S7 := Lib.hid hs7; have BW' := Lib.hid (BW.out.grown hgrow BW.out.size (fun j hj => (World.ownsRow.lt O.out j hj).1)); clear BW; have BW := BW'; clear BW' O S2 hs7 hgrow; have O := Lib.hid ho7; clear ho7; clear K2 q; have K3 := trivial)
              | (have q := K3; go_at_call 24; refine (check_len _ _ 301 ((List.replicate 300 (1, 1, 0, 0)) ++ [(1, 1, 0, 0)]) (by simp) _ S7.out (lg_wf1 1 (by decide)) 3 lg_ck1).mono ?_; rintro e w9 ⟨rfl, b⟩; have BW' := Lib.hid (grew_trans BW.out b); clear BW; have BW := BW'; clear BW'; have O' := Lib.hid (own_below O.out b); clear O; have O := O'; clear O'; clear S7; clear K3 q; have K4 := trivial)
              | (have q := K4; go_at_call 30; refine (epoch_new 0 _).mono ?_; rintro e w8 ⟨rfl, b⟩; have S2 := Lib.hid (sl_lit w8 [(0, 1, 0, 0)] 1 _ rfl rfl (by unfold maxLen; omega)); have BW' := Lib.hid (grew_trans BW.out (grew_trans b (al w8 (.cells #[.int .u64 0, .int .i64 1, .int .u64 0, .int .u64 0] 33)))); clear BW; have BW := BW'; clear BW'; have O' := Lib.hid (own_below O.out (grew_trans b (al w8 (.cells #[.int .u64 0, .int .i64 1, .int .u64 0, .int .u64 0] 33)))); clear O; have O := O'; clear O'; clear K4 q; have K5 := trivial)
              | (have q := K5; refine wp_app_keep _ _ rfl w.heap.size g 300 c6 (List.replicate 300 (1, 1, 0, 0)) rfl (by simp) O.out _ 1 _ [(0, 1, 0, 0)] rfl rfl S2.out.ents 301 rfl (by simp) ?_; intro a7 c7 w9 hs7 ho7 hgrow; have S7 := Lib.hid hs7; have BW' := Lib.hid (BW.out.grown hgrow BW.out.size (fun j hj => (World.ownsRow.lt O.out j hj).1)); clear BW; have BW := BW'; clear BW' O S2 hs7 hgrow; have O := Lib.hid ho7; clear ho7; clear K5 q; have K6 := trivial)
              | (have q := K6; go_at_call 24; refine (check_len _ _ 301 ((List.replicate 300 (1, 1, 0, 0)) ++ [(0, 1, 0, 0)]) (by simp) _ S7.out (lg_wf1 0 (by decide)) 3 lg_ck2).mono ?_; rintro e w9 ⟨rfl, b⟩; have BW' := Lib.hid (grew_trans BW.out b); clear BW; have BW := BW'; clear BW'; have O' := Lib.hid (own_below O.out b); clear O; have O := O'; clear O'; clear S7; clear K6 q; have K7 := trivial))
            clear O
            have T0 := trivial
            go_upto_region 23 with (first
              | (have q := T0; go_at_call 30; refine (epoch_new 1 _).mono ?_; rintro e w9 ⟨rfl, b0⟩; have BW' := Lib.hid (grew_trans BW.out b0); clear BW; have BW := BW'; clear BW'; clear T0 q; have T1 := trivial)
              | (have q := T1; go_at_call 30; refine (epoch_new 2 _).mono ?_; rintro e w9 ⟨rfl, b1⟩; have BW' := Lib.hid (grew_trans BW.out b1); clear BW; have BW := BW'; clear BW'; clear T1 q; have T2 := trivial)
              | (have q := T2; go_at_call 30; refine (epoch_new 1 _).mono ?_; rintro e w8 ⟨rfl, b2⟩; have BW' := Lib.hid (grew_trans BW.out (grew_trans (al _ _) b2)); clear BW; have BW := BW'; clear BW'; have TWO := Lib.hid ((sl_lit _ [(1, 1, 0, 0), (2, 1, 0, 0)] 2 _ rfl rfl (by unfold maxLen; omega)).below b2); clear T2 q; have T3 := trivial)
              | (have q := T3; go_at_call 32; refine (lease_new 1 _).mono ?_; rintro e w9 ⟨rfl, b3⟩; have BW' := Lib.hid (grew_trans BW.out b3); clear BW; have BW := BW'; clear BW'; have TWO' := Lib.hid (TWO.out.below b3); clear TWO; have TWO := TWO'; clear TWO'; clear T3 q; have T4 := trivial))
            have PAIR : Hid (Sl (w9.alloc (.cells #[.int .u64 1, .int .i64 1, .int .u64 0, .int .u64 0, .int .u64 1, .int .i64 2, .int .u64 0, .int .u64 0] 33)) (some ⟨w9.heap.size, 0, none⟩) 2 [(1, 1, 0, 0), (1, 2, 0, 0)]) := Lib.hid (sl_lit w9 [(1, 1, 0, 0), (1, 2, 0, 0)] 2 _ rfl rfl (by unfold maxLen; omega))
            have BW' := Lib.hid (grew_trans BW.out (al w9 (.cells #[.int .u64 1, .int .i64 1, .int .u64 0, .int .u64 0, .int .u64 1, .int .i64 2, .int .u64 0, .int .u64 0] 33))); clear BW; have BW := BW'; clear BW'
            have TWO' := Lib.hid (TWO.out.below (al w9 (.cells #[.int .u64 1, .int .i64 1, .int .u64 0, .int .u64 0, .int .u64 1, .int .i64 2, .int .u64 0, .int .u64 0] 33))); clear TWO; have TWO := TWO'; clear TWO'
            go_upto_region 25 with (first
              | (have q := T4; go_at_call 12; refine (fits_len _ _ 2 [(1, 1, 0, 0), (2, 1, 0, 0)] 2 2 rfl _ TWO.out true (by decide)).mono ?_; rintro e w9 ⟨rfl, rfl⟩; clear T4 q; have T5 := trivial)
              | (have q := T5; go_at_call 12; refine (fits_len _ _ 2 [(1, 1, 0, 0), (2, 1, 0, 0)] 2 1 rfl _ TWO.out false (by decide)).mono ?_; rintro e w9 ⟨rfl, rfl⟩; clear T5 q; have T6 := trivial)
              | (have q := T6; go_at_call 12; refine (fits_len _ _ 2 [(1, 1, 0, 0), (2, 1, 0, 0)] 1 1 rfl _ TWO.out true (by decide)).mono ?_; rintro e w9 ⟨rfl, rfl⟩; clear T6 q; have T7 := trivial)
              | (have q := T7; go_at_call 12; refine (fits_len _ _ 2 [(1, 1, 0, 0), (1, 2, 0, 0)] 0 0 rfl _ PAIR.out true (by decide)).mono ?_; rintro e w9 ⟨rfl, rfl⟩; clear T7 q; have T8 := trivial)
              | (have q := T8; go_at_call 12; refine (fits_len _ _ 0 [] 0 1 rfl _ (sl_nil _) false (by decide)).mono ?_; rintro e w9 ⟨rfl, rfl⟩; clear T8 q; have T9 := trivial)
              | (have q := T9; go_at_call 12; refine (fits_len _ _ 2 [(1, 1, 0, 0), (2, 1, 0, 0)] 3 2 rfl _ TWO.out false (by decide)).mono ?_; rintro e w9 ⟨rfl, rfl⟩; clear T9 q; have T10 := trivial)
              | (have q := T10; go_at_call 12; refine (fits_len _ _ 2 [(1, 1, 0, 0), (2, 1, 0, 0)] (-1) 0 rfl _ TWO.out false (by decide)).mono ?_; rintro e w9 ⟨rfl, rfl⟩; clear T10 q; have T11 := trivial))
            go_upto_region 27 with (first
              | (have q := T11; go_at_call 14; refine (newer_len _ _ 2 [(1, 1, 0, 0), (1, 2, 0, 0)] 1 2 rfl _ PAIR.out true (by decide)).mono ?_; rintro e w9 ⟨rfl, rfl⟩; clear T11 q; have T12 := trivial)
              | (have q := T12; go_at_call 14; refine (newer_len _ _ 2 [(1, 1, 0, 0), (1, 2, 0, 0)] 1 1 rfl _ PAIR.out false (by decide)).mono ?_; rintro e w9 ⟨rfl, rfl⟩; clear T12 q; have T13 := trivial)
              | (have q := T13; go_at_call 14; refine (newer_len _ _ 2 [(1, 1, 0, 0), (1, 2, 0, 0)] 2 1 rfl _ PAIR.out true (by decide)).mono ?_; rintro e w9 ⟨rfl, rfl⟩; clear T13 q; have T14 := trivial)
              | (have q := T14; go_at_call 14; refine (newer_len _ _ 0 [] 0 0 rfl _ (sl_nil _) true (by decide)).mono ?_; rintro e w9 ⟨rfl, rfl⟩; clear T14 q; have T15 := trivial)
              | (have q := T15; go_at_call 14; refine (newer_len _ _ 2 [(1, 1, 0, 0), (1, 2, 0, 0)] 9 0 rfl _ PAIR.out false (by decide)).mono ?_; rintro e w9 ⟨rfl, rfl⟩; clear T15 q; have T16 := trivial)
              | (have q := T16; go_at_call 14; refine (newer_len _ _ 2 [(1, 1, 0, 0), (1, 2, 0, 0)] 3 1 rfl _ PAIR.out true (by decide)).mono ?_; rintro e w9 ⟨rfl, rfl⟩; clear T16 q; have T17 := trivial))
            go_upto_region 29 with (first
              | (have q := T17; go_at_call 30; refine (epoch_new 2 _).mono ?_; rintro e w9 ⟨rfl, b17⟩; have BW' := Lib.hid (grew_trans BW.out b17); clear BW; have BW := BW'; clear BW'; have TWO' := Lib.hid (TWO.out.below b17); clear TWO; have TWO := TWO'; clear TWO'; have PAIR' := Lib.hid (PAIR.out.below b17); clear PAIR; have PAIR := PAIR'; clear PAIR'; clear T17 q; have T18 := trivial)
              | (have q := T18; go_at_call 17; refine (join_len _ _ _ _ 2 1 [(1, 1, 0, 0), (1, 2, 0, 0)] [(2, 1, 0, 0)] 1 rfl rfl _ (PAIR.out.below (al _ _)) (sl_lit _ [(2, 1, 0, 0)] 1 _ rfl rfl (by unfold maxLen; omega)) (by decide)).mono ?_; intro e w9 hp; rw [show joinL [(1, 1, 0, 0), (1, 2, 0, 0)] 1 [(2, 1, 0, 0)] = [(1, 1, 0, 0), (2, 1, 0, 0)] from by decide +kernel] at hp; obtain ⟨a9, c9, rfl, hs9, -, b18⟩ := sl_form hp (n := 2) rfl; have BW' := Lib.hid (grew_trans BW.out (grew_trans (al _ _) b18)); clear BW; have BW := BW'; clear BW'; have TWO' := Lib.hid (TWO.out.below (grew_trans (al _ _) b18)); clear TWO; have TWO := TWO'; clear TWO'; have PAIR' := Lib.hid (PAIR.out.below (grew_trans (al _ _) b18)); clear PAIR; have PAIR := PAIR'; clear PAIR'; have RES := Lib.hid (hs9); clear T18 q; have T19 := trivial)
              | (have q := T19; go_at_call 28; refine (same_len [(1, 1, 0, 0), (2, 1, 0, 0)] [(1, 1, 0, 0), (2, 1, 0, 0)] _ _ _ _ 2 2 rfl rfl _ RES.out TWO.out true (by decide)).mono ?_; rintro e w9 ⟨rfl, b19⟩; have BW' := Lib.hid (grew_trans BW.out b19); clear BW; have BW := BW'; clear BW'; have TWO' := Lib.hid (TWO.out.below b19); clear TWO; have TWO := TWO'; clear TWO'; have PAIR' := Lib.hid (PAIR.out.below b19); clear PAIR; have PAIR := PAIR'; clear PAIR'; clear T19 q RES; have T20 := trivial)
              | (have q := T20; go_at_call 30; refine (epoch_new 1 _).mono ?_; rintro e w9 ⟨rfl, b20⟩; have BW' := Lib.hid (grew_trans BW.out b20); clear BW; have BW := BW'; clear BW'; have TWO' := Lib.hid (TWO.out.below b20); clear TWO; have TWO := TWO'; clear TWO'; have PAIR' := Lib.hid (PAIR.out.below b20); clear PAIR; have PAIR := PAIR'; clear PAIR'; clear T20 q; have T21 := trivial)
              | (have q := T21; go_at_call 17; refine (join_len _ _ _ _ 2 1 [(1, 1, 0, 0), (1, 2, 0, 0)] [(1, 1, 0, 0)] 0 rfl rfl _ (PAIR.out.below (al _ _)) (sl_lit _ [(1, 1, 0, 0)] 1 _ rfl rfl (by unfold maxLen; omega)) (by decide)).mono ?_; intro e w9 hp; rw [show joinL [(1, 1, 0, 0), (1, 2, 0, 0)] 0 [(1, 1, 0, 0)] = [(1, 1, 0, 0), (1, 2, 0, 0)] from by decide +kernel] at hp; obtain ⟨a9, c9, rfl, hs9, -, b21⟩ := sl_form hp (n := 2) rfl; have BW' := Lib.hid (grew_trans BW.out (grew_trans (al _ _) b21)); clear BW; have BW := BW'; clear BW'; have TWO' := Lib.hid (TWO.out.below (grew_trans (al _ _) b21)); clear TWO; have TWO := TWO'; clear TWO'; have PAIR' := Lib.hid (PAIR.out.below (grew_trans (al _ _) b21)); clear PAIR; have PAIR := PAIR'; clear PAIR'; have RES := Lib.hid (hs9); clear T21 q; have T22 := trivial)
              | (have q := T22; go_at_call 28; refine (same_len [(1, 1, 0, 0), (1, 2, 0, 0)] [(1, 1, 0, 0), (1, 2, 0, 0)] _ _ _ _ 2 2 rfl rfl _ RES.out PAIR.out true (by decide)).mono ?_; rintro e w9 ⟨rfl, b22⟩; have BW' := Lib.hid (grew_trans BW.out b22); clear BW; have BW := BW'; clear BW'; have TWO' := Lib.hid (TWO.out.below b22); clear TWO; have TWO := TWO'; clear TWO'; have PAIR' := Lib.hid (PAIR.out.below b22); clear PAIR; have PAIR := PAIR'; clear PAIR'; clear T22 q RES; have T23 := trivial)
              | (have q := T23; go_at_call 29; refine (commit_new 1 1 _).mono ?_; rintro e w9 ⟨rfl, b23⟩; have BW' := Lib.hid (grew_trans BW.out b23); clear BW; have BW := BW'; clear BW'; have TWO' := Lib.hid (TWO.out.below b23); clear TWO; have TWO := TWO'; clear TWO'; have PAIR' := Lib.hid (PAIR.out.below b23); clear PAIR; have PAIR := PAIR'; clear PAIR'; clear T23 q; have T24 := trivial)
              | (have q := T24; go_at_call 17; refine (join_len _ _ _ _ 2 1 [(1, 1, 0, 0), (1, 2, 0, 0)] [(1, 3, 1, 1)] 2 rfl rfl _ (PAIR.out.below (al _ _)) (sl_lit _ [(1, 3, 1, 1)] 1 _ rfl rfl (by unfold maxLen; omega)) (by decide)).mono ?_; intro e w9 hp; rw [show joinL [(1, 1, 0, 0), (1, 2, 0, 0)] 2 [(1, 3, 1, 1)] = [(1, 1, 0, 0), (1, 2, 0, 0), (1, 3, 1, 1)] from by decide +kernel] at hp; obtain ⟨a9, c9, rfl, hs9, -, b24⟩ := sl_form hp (n := 3) rfl; have BW' := Lib.hid (grew_trans BW.out (grew_trans (al _ _) b24)); clear BW; have BW := BW'; clear BW'; have TWO' := Lib.hid (TWO.out.below (grew_trans (al _ _) b24)); clear TWO; have TWO := TWO'; clear TWO'; have PAIR' := Lib.hid (PAIR.out.below (grew_trans (al _ _) b24)); clear PAIR; have PAIR := PAIR'; clear PAIR'; have RES := Lib.hid (hs9); clear T24 q; have T25 := trivial)
              | (have q := T25; go_at_call 30; refine (epoch_new 1 _).mono ?_; rintro e w9 ⟨rfl, b25⟩; have BW' := Lib.hid (grew_trans BW.out b25); clear BW; have BW := BW'; clear BW'; have TWO' := Lib.hid (TWO.out.below b25); clear TWO; have TWO := TWO'; clear TWO'; have PAIR' := Lib.hid (PAIR.out.below b25); clear PAIR; have PAIR := PAIR'; clear PAIR'; have RES' := Lib.hid (RES.out.below b25); clear RES; have RES := RES'; clear RES'; clear T25 q; have T26 := trivial)
              | (have q := T26; go_at_call 32; refine (lease_new 1 _).mono ?_; rintro e w9 ⟨rfl, b26⟩; have BW' := Lib.hid (grew_trans BW.out b26); clear BW; have BW := BW'; clear BW'; have TWO' := Lib.hid (TWO.out.below b26); clear TWO; have TWO := TWO'; clear TWO'; have PAIR' := Lib.hid (PAIR.out.below b26); clear PAIR; have PAIR := PAIR'; clear PAIR'; have RES' := Lib.hid (RES.out.below b26); clear RES; have RES := RES'; clear RES'; clear T26 q; have T27 := trivial)
              | (have q := T27; go_at_call 29; refine (commit_new 1 1 _).mono ?_; rintro e w9 ⟨rfl, b27⟩; have BW' := Lib.hid (grew_trans BW.out b27); clear BW; have BW := BW'; clear BW'; have TWO' := Lib.hid (TWO.out.below b27); clear TWO; have TWO := TWO'; clear TWO'; have PAIR' := Lib.hid (PAIR.out.below b27); clear PAIR; have PAIR := PAIR'; clear PAIR'; have RES' := Lib.hid (RES.out.below b27); clear RES; have RES := RES'; clear RES'; clear T27 q; have T28 := trivial)
              | (have q := T28; go_at_call 28; refine (same_len [(1, 1, 0, 0), (1, 2, 0, 0), (1, 3, 1, 1)] [(1, 1, 0, 0), (1, 2, 0, 0), (1, 3, 1, 1)] _ _ _ _ 3 3 rfl rfl _ (RES.out.below (al _ _)) (sl_lit _ [(1, 1, 0, 0), (1, 2, 0, 0), (1, 3, 1, 1)] 3 _ rfl rfl (by unfold maxLen; omega)) true (by decide)).mono ?_; rintro e w9 ⟨rfl, b28⟩; have BW' := Lib.hid (grew_trans BW.out (grew_trans (al _ _) b28)); clear BW; have BW := BW'; clear BW'; have TWO' := Lib.hid (TWO.out.below (grew_trans (al _ _) b28)); clear TWO; have TWO := TWO'; clear TWO'; have PAIR' := Lib.hid (PAIR.out.below (grew_trans (al _ _) b28)); clear PAIR; have PAIR := PAIR'; clear PAIR'; clear T28 q RES; have T29 := trivial)
              | (have q := T29; go_at_call 17; refine (join_len _ _ _ _ 2 2 [(1, 1, 0, 0), (1, 2, 0, 0)] [(1, 1, 0, 0), (2, 1, 0, 0)] 3 rfl rfl _ PAIR.out TWO.out (by decide)).mono ?_; intro e w9 hp; rw [show joinL [(1, 1, 0, 0), (1, 2, 0, 0)] 3 [(1, 1, 0, 0), (2, 1, 0, 0)] = [(1, 1, 0, 0), (1, 2, 0, 0)] from by decide +kernel] at hp; obtain ⟨a9, c9, rfl, hs9, -, b29⟩ := sl_form hp (n := 2) rfl; have BW' := Lib.hid (grew_trans BW.out b29); clear BW; have BW := BW'; clear BW'; have TWO' := Lib.hid (TWO.out.below b29); clear TWO; have TWO := TWO'; clear TWO'; have PAIR' := Lib.hid (PAIR.out.below b29); clear PAIR; have PAIR := PAIR'; clear PAIR'; have RES := Lib.hid (hs9); clear T29 q; have T30 := trivial)
              | (have q := T30; go_at_call 28; refine (same_len [(1, 1, 0, 0), (1, 2, 0, 0)] [(1, 1, 0, 0), (1, 2, 0, 0)] _ _ _ _ 2 2 rfl rfl _ RES.out PAIR.out true (by decide)).mono ?_; rintro e w9 ⟨rfl, b30⟩; have BW' := Lib.hid (grew_trans BW.out b30); clear BW; have BW := BW'; clear BW'; have TWO' := Lib.hid (TWO.out.below b30); clear TWO; have TWO := TWO'; clear TWO'; have PAIR' := Lib.hid (PAIR.out.below b30); clear PAIR; have PAIR := PAIR'; clear PAIR'; clear T30 q RES; have T31 := trivial)
              | (have q := T31; go_at_call 17; refine (join_len _ _ _ _ 2 2 [(1, 1, 0, 0), (1, 2, 0, 0)] [(1, 1, 0, 0), (2, 1, 0, 0)] (-1) rfl rfl _ PAIR.out TWO.out (by decide)).mono ?_; intro e w9 hp; rw [show joinL [(1, 1, 0, 0), (1, 2, 0, 0)] (-1) [(1, 1, 0, 0), (2, 1, 0, 0)] = [(1, 1, 0, 0), (1, 2, 0, 0)] from by decide +kernel] at hp; obtain ⟨a9, c9, rfl, hs9, -, b31⟩ := sl_form hp (n := 2) rfl; have BW' := Lib.hid (grew_trans BW.out b31); clear BW; have BW := BW'; clear BW'; have TWO' := Lib.hid (TWO.out.below b31); clear TWO; have TWO := TWO'; clear TWO'; have PAIR' := Lib.hid (PAIR.out.below b31); clear PAIR; have PAIR := PAIR'; clear PAIR'; have RES := Lib.hid (hs9); clear T31 q; have T32 := trivial)
              | (have q := T32; go_at_call 28; refine (same_len [(1, 1, 0, 0), (1, 2, 0, 0)] [(1, 1, 0, 0), (1, 2, 0, 0)] _ _ _ _ 2 2 rfl rfl _ RES.out PAIR.out true (by decide)).mono ?_; rintro e w9 ⟨rfl, b32⟩; have BW' := Lib.hid (grew_trans BW.out b32); clear BW; have BW := BW'; clear BW'; have TWO' := Lib.hid (TWO.out.below b32); clear TWO; have TWO := TWO'; clear TWO'; have PAIR' := Lib.hid (PAIR.out.below b32); clear PAIR; have PAIR := PAIR'; clear PAIR'; clear T32 q RES; have T33 := trivial)
              | (have q := T33; go_at_call 17; refine (join_len _ _ _ _ 2 0 [(1, 1, 0, 0), (1, 2, 0, 0)] [] 0 rfl rfl _ PAIR.out (sl_nil _) (by decide)).mono ?_; intro e w9 hp; rw [show joinL [(1, 1, 0, 0), (1, 2, 0, 0)] 0 [] = [(1, 1, 0, 0), (1, 2, 0, 0)] from by decide +kernel] at hp; obtain ⟨a9, c9, rfl, hs9, -, b33⟩ := sl_form hp (n := 2) rfl; have BW' := Lib.hid (grew_trans BW.out b33); clear BW; have BW := BW'; clear BW'; have TWO' := Lib.hid (TWO.out.below b33); clear TWO; have TWO := TWO'; clear TWO'; have PAIR' := Lib.hid (PAIR.out.below b33); clear PAIR; have PAIR := PAIR'; clear PAIR'; have RES := Lib.hid (hs9); clear T33 q; have T34 := trivial)
              | (have q := T34; go_at_call 28; refine (same_len [(1, 1, 0, 0), (1, 2, 0, 0)] [(1, 1, 0, 0), (1, 2, 0, 0)] _ _ _ _ 2 2 rfl rfl _ RES.out PAIR.out true (by decide)).mono ?_; rintro e w9 ⟨rfl, b34⟩; have BW' := Lib.hid (grew_trans BW.out b34); clear BW; have BW := BW'; clear BW'; have TWO' := Lib.hid (TWO.out.below b34); clear TWO; have TWO := TWO'; clear TWO'; have PAIR' := Lib.hid (PAIR.out.below b34); clear PAIR; have PAIR := PAIR'; clear PAIR'; clear T34 q RES; have T35 := trivial)
              | (have q := T35; go_at_call 30; refine (epoch_new 1 _).mono ?_; rintro e w9 ⟨rfl, b35⟩; have BW' := Lib.hid (grew_trans BW.out b35); clear BW; have BW := BW'; clear BW'; have TWO' := Lib.hid (TWO.out.below b35); clear TWO; have TWO := TWO'; clear TWO'; have PAIR' := Lib.hid (PAIR.out.below b35); clear PAIR; have PAIR := PAIR'; clear PAIR'; clear T35 q; have T36 := trivial)
              | (have q := T36; go_at_call 30; refine (epoch_new 2 _).mono ?_; rintro e w9 ⟨rfl, b36⟩; have BW' := Lib.hid (grew_trans BW.out b36); clear BW; have BW := BW'; clear BW'; have TWO' := Lib.hid (TWO.out.below b36); clear TWO; have TWO := TWO'; clear TWO'; have PAIR' := Lib.hid (PAIR.out.below b36); clear PAIR; have PAIR := PAIR'; clear PAIR'; clear T36 q; have T37 := trivial)
              | (have q := T37; go_at_call 30; refine (epoch_new 2 _).mono ?_; rintro e w9 ⟨rfl, b37⟩; have BW' := Lib.hid (grew_trans BW.out b37); clear BW; have BW := BW'; clear BW'; have TWO' := Lib.hid (TWO.out.below b37); clear TWO; have TWO := TWO'; clear TWO'; have PAIR' := Lib.hid (PAIR.out.below b37); clear PAIR; have PAIR := PAIR'; clear PAIR'; clear T37 q; have T38 := trivial)
              | (have q := T38; go_at_call 17; refine (join_len _ _ _ _ 2 3 [(1, 1, 0, 0), (1, 2, 0, 0)] [(1, 1, 0, 0), (2, 1, 0, 0), (2, 1, 0, 0)] 0 rfl rfl _ (PAIR.out.below (al _ _)) (sl_lit _ [(1, 1, 0, 0), (2, 1, 0, 0), (2, 1, 0, 0)] 3 _ rfl rfl (by unfold maxLen; omega)) (by decide)).mono ?_; intro e w9 hp; rw [show joinL [(1, 1, 0, 0), (1, 2, 0, 0)] 0 [(1, 1, 0, 0), (2, 1, 0, 0), (2, 1, 0, 0)] = [(1, 1, 0, 0), (2, 1, 0, 0), (2, 1, 0, 0)] from by decide +kernel] at hp; obtain ⟨a9, c9, rfl, hs9, -, b38⟩ := sl_form hp (n := 3) rfl; have BW' := Lib.hid (grew_trans BW.out (grew_trans (al _ _) b38)); clear BW; have BW := BW'; clear BW'; have TWO' := Lib.hid (TWO.out.below (grew_trans (al _ _) b38)); clear TWO; have TWO := TWO'; clear TWO'; have PAIR' := Lib.hid (PAIR.out.below (grew_trans (al _ _) b38)); clear PAIR; have PAIR := PAIR'; clear PAIR'; have RES := Lib.hid (hs9); clear T38 q; have T39 := trivial)
              | (have q := T39; go_at_call 30; refine (epoch_new 1 _).mono ?_; rintro e w9 ⟨rfl, b39⟩; have BW' := Lib.hid (grew_trans BW.out b39); clear BW; have BW := BW'; clear BW'; have TWO' := Lib.hid (TWO.out.below b39); clear TWO; have TWO := TWO'; clear TWO'; have PAIR' := Lib.hid (PAIR.out.below b39); clear PAIR; have PAIR := PAIR'; clear PAIR'; have RES' := Lib.hid (RES.out.below b39); clear RES; have RES := RES'; clear RES'; clear T39 q; have T40 := trivial)
              | (have q := T40; go_at_call 30; refine (epoch_new 2 _).mono ?_; rintro e w9 ⟨rfl, b40⟩; have BW' := Lib.hid (grew_trans BW.out b40); clear BW; have BW := BW'; clear BW'; have TWO' := Lib.hid (TWO.out.below b40); clear TWO; have TWO := TWO'; clear TWO'; have PAIR' := Lib.hid (PAIR.out.below b40); clear PAIR; have PAIR := PAIR'; clear PAIR'; have RES' := Lib.hid (RES.out.below b40); clear RES; have RES := RES'; clear RES'; clear T40 q; have T41 := trivial)
              | (have q := T41; go_at_call 30; refine (epoch_new 2 _).mono ?_; rintro e w9 ⟨rfl, b41⟩; have BW' := Lib.hid (grew_trans BW.out b41); clear BW; have BW := BW'; clear BW'; have TWO' := Lib.hid (TWO.out.below b41); clear TWO; have TWO := TWO'; clear TWO'; have PAIR' := Lib.hid (PAIR.out.below b41); clear PAIR; have PAIR := PAIR'; clear PAIR'; have RES' := Lib.hid (RES.out.below b41); clear RES; have RES := RES'; clear RES'; clear T41 q; have T42 := trivial)
              | (have q := T42; go_at_call 28; refine (same_len [(1, 1, 0, 0), (2, 1, 0, 0), (2, 1, 0, 0)] [(1, 1, 0, 0), (2, 1, 0, 0), (2, 1, 0, 0)] _ _ _ _ 3 3 rfl rfl _ (RES.out.below (al _ _)) (sl_lit _ [(1, 1, 0, 0), (2, 1, 0, 0), (2, 1, 0, 0)] 3 _ rfl rfl (by unfold maxLen; omega)) true (by decide)).mono ?_; rintro e w9 ⟨rfl, b42⟩; have BW' := Lib.hid (grew_trans BW.out (grew_trans (al _ _) b42)); clear BW; have BW := BW'; clear BW'; have TWO' := Lib.hid (TWO.out.below (grew_trans (al _ _) b42)); clear TWO; have TWO := TWO'; clear TWO'; have PAIR' := Lib.hid (PAIR.out.below (grew_trans (al _ _) b42)); clear PAIR; have PAIR := PAIR'; clear PAIR'; clear T42 q RES; have T43 := trivial)
              | (have q := T43; go_at_call 28; refine (same_len [(1, 1, 0, 0), (1, 2, 0, 0)] [(1, 1, 0, 0), (2, 1, 0, 0)] _ _ _ _ 2 2 rfl rfl _ PAIR.out TWO.out false (by decide)).mono ?_; rintro e w9 ⟨rfl, b43⟩; have BW' := Lib.hid (grew_trans BW.out b43); clear BW; have BW := BW'; clear BW'; have TWO' := Lib.hid (TWO.out.below b43); clear TWO; have TWO := TWO'; clear TWO'; have PAIR' := Lib.hid (PAIR.out.below b43); clear PAIR; have PAIR := PAIR'; clear PAIR'; clear T43 q; have T44 := trivial)
              | (have q := T44; go_at_call 28; refine (same_len [(1, 1, 0, 0), (1, 2, 0, 0)] [(1, 1, 0, 0)] _ _ _ _ 2 1 rfl rfl _ PAIR.out (PAIR.out.take 1) false (by decide)).mono ?_; rintro e w9 ⟨rfl, b44⟩; have BW' := Lib.hid (grew_trans BW.out b44); clear BW; have BW := BW'; clear BW'; have TWO' := Lib.hid (TWO.out.below b44); clear TWO; have TWO := TWO'; clear TWO'; have PAIR' := Lib.hid (PAIR.out.below b44); clear PAIR; have PAIR := PAIR'; clear PAIR'; clear T44 q; have T45 := trivial))
            go_upto_region 31 with (first
              | (have q := T45; go_at_call 30; refine (epoch_new 1 _).mono ?_; rintro e w9 ⟨rfl, b45⟩; have BW' := Lib.hid (grew_trans BW.out b45); clear BW; have BW := BW'; clear BW'; have TWO' := Lib.hid (TWO.out.below b45); clear TWO; have TWO := TWO'; clear TWO'; have PAIR' := Lib.hid (PAIR.out.below b45); clear PAIR; have PAIR := PAIR'; clear PAIR'; clear T45 q; have T46 := trivial)
              | (have q := T46; go_at_call 32; refine (lease_new 1 _).mono ?_; rintro e w9 ⟨rfl, b46⟩; have BW' := Lib.hid (grew_trans BW.out b46); clear BW; have BW := BW'; clear BW'; have TWO' := Lib.hid (TWO.out.below b46); clear TWO; have TWO := TWO'; clear TWO'; have PAIR' := Lib.hid (PAIR.out.below b46); clear PAIR; have PAIR := PAIR'; clear PAIR'; clear T46 q; have T47 := trivial)
              | (have q := T47; go_at_call 29; refine (commit_new 1 1 _).mono ?_; rintro e w9 ⟨rfl, b47⟩; have BW' := Lib.hid (grew_trans BW.out b47); clear BW; have BW := BW'; clear BW'; have TWO' := Lib.hid (TWO.out.below b47); clear TWO; have TWO := TWO'; clear TWO'; have PAIR' := Lib.hid (PAIR.out.below b47); clear PAIR; have PAIR := PAIR'; clear PAIR'; clear T47 q; have T48 := trivial)
              | (have q := T48; go_at_call 30; refine (epoch_new 3 _).mono ?_; rintro e w9 ⟨rfl, b48⟩; have BW' := Lib.hid (grew_trans BW.out b48); clear BW; have BW := BW'; clear BW'; have TWO' := Lib.hid (TWO.out.below b48); clear TWO; have TWO := TWO'; clear TWO'; have PAIR' := Lib.hid (PAIR.out.below b48); clear PAIR; have PAIR := PAIR'; clear PAIR'; clear T48 q; have T49 := trivial)
              | (have q := T49; go_at_call 32; refine (lease_new 1 _).mono ?_; rintro e w9 ⟨rfl, b49⟩; have BW' := Lib.hid (grew_trans BW.out b49); clear BW; have BW := BW'; clear BW'; have TWO' := Lib.hid (TWO.out.below b49); clear TWO; have TWO := TWO'; clear TWO'; have PAIR' := Lib.hid (PAIR.out.below b49); clear PAIR; have PAIR := PAIR'; clear PAIR'; clear T49 q; have T50 := trivial)
              | (have q := T50; go_at_call 29; refine (commit_new 1 2 _).mono ?_; rintro e w9 ⟨rfl, b50⟩; have BW' := Lib.hid (grew_trans BW.out b50); clear BW; have BW := BW'; clear BW'; have TWO' := Lib.hid (TWO.out.below b50); clear TWO; have TWO := TWO'; clear TWO'; have PAIR' := Lib.hid (PAIR.out.below b50); clear PAIR; have PAIR := PAIR'; clear PAIR'; clear T50 q; have T51 := trivial)
              | (have q := T51; go_at_call 32; refine (lease_new 3 _).mono ?_; rintro e w9 ⟨rfl, b51⟩; have BW' := Lib.hid (grew_trans BW.out b51); clear BW; have BW := BW'; clear BW'; have TWO' := Lib.hid (TWO.out.below b51); clear TWO; have TWO := TWO'; clear TWO'; have PAIR' := Lib.hid (PAIR.out.below b51); clear PAIR; have PAIR := PAIR'; clear PAIR'; clear T51 q; have T52 := trivial)
              | (have q := T52; go_at_call 30; refine (epoch_new 1 _).mono ?_; rintro e w8 ⟨rfl, b52⟩; have BW' := Lib.hid (grew_trans BW.out (grew_trans (al _ _) b52)); clear BW; have BW := BW'; clear BW'; have TWO' := Lib.hid (TWO.out.below (grew_trans (al _ _) b52)); clear TWO; have TWO := TWO'; clear TWO'; have PAIR' := Lib.hid (PAIR.out.below (grew_trans (al _ _) b52)); clear PAIR; have PAIR := PAIR'; clear PAIR'; have ALL := Lib.hid ((sl_lit _ [(1, 1, 0, 0), (1, 2, 0, 0), (1, 3, 1, 1), (3, 1, 0, 0), (1, 2, 0, 0), (1, 3, 1, 2), (3, 2, 0, 0)] 7 _ rfl rfl (by unfold maxLen; omega)).below b52); clear T52 q; have T53 := trivial)
              | (have q := T53; go_at_call 31; refine (guid_new 1 1 _).mono ?_; rintro e w9 ⟨rfl, b53⟩; have BW' := Lib.hid (grew_trans BW.out b53); clear BW; have BW := BW'; clear BW'; have TWO' := Lib.hid (TWO.out.below b53); clear TWO; have TWO := TWO'; clear TWO'; have PAIR' := Lib.hid (PAIR.out.below b53); clear PAIR; have PAIR := PAIR'; clear PAIR'; have ALL' := Lib.hid (ALL.out.below b53); clear ALL; have ALL := ALL'; clear ALL'; clear T53 q; have T54 := trivial)
              | (have q := T54; go_at_call 29; refine (commit_new 1 1 _).mono ?_; rintro e w9 ⟨rfl, b54⟩; have BW' := Lib.hid (grew_trans BW.out b54); clear BW; have BW := BW'; clear BW'; have TWO' := Lib.hid (TWO.out.below b54); clear TWO; have TWO := TWO'; clear TWO'; have PAIR' := Lib.hid (PAIR.out.below b54); clear PAIR; have PAIR := PAIR'; clear PAIR'; have ALL' := Lib.hid (ALL.out.below b54); clear ALL; have ALL := ALL'; clear ALL'; clear T54 q; have T55 := trivial)
              | (have q := T55; go_at_call 29; refine (commit_new 1 1 _).mono ?_; rintro e w9 ⟨rfl, b55⟩; have BW' := Lib.hid (grew_trans BW.out b55); clear BW; have BW := BW'; clear BW'; have TWO' := Lib.hid (TWO.out.below b55); clear TWO; have TWO := TWO'; clear TWO'; have PAIR' := Lib.hid (PAIR.out.below b55); clear PAIR; have PAIR := PAIR'; clear PAIR'; have ALL' := Lib.hid (ALL.out.below b55); clear ALL; have ALL := ALL'; clear ALL'; clear T55 q; have T56 := trivial)
              | (have q := T56; go_at_call 29; refine (commit_new 1 3 _).mono ?_; rintro e w9 ⟨rfl, b56⟩; have BW' := Lib.hid (grew_trans BW.out b56); clear BW; have BW := BW'; clear BW'; have TWO' := Lib.hid (TWO.out.below b56); clear TWO; have TWO := TWO'; clear TWO'; have PAIR' := Lib.hid (PAIR.out.below b56); clear PAIR; have PAIR := PAIR'; clear PAIR'; have ALL' := Lib.hid (ALL.out.below b56); clear ALL; have ALL := ALL'; clear ALL'; clear T56 q; have T57 := trivial)
              | (have q := T57; go_at_call 29; refine (commit_new 1 2 _).mono ?_; rintro e w9 ⟨rfl, b57⟩; have BW' := Lib.hid (grew_trans BW.out b57); clear BW; have BW := BW'; clear BW'; have TWO' := Lib.hid (TWO.out.below b57); clear TWO; have TWO := TWO'; clear TWO'; have PAIR' := Lib.hid (PAIR.out.below b57); clear PAIR; have PAIR := PAIR'; clear PAIR'; have ALL' := Lib.hid (ALL.out.below b57); clear ALL; have ALL := ALL'; clear ALL'; clear T57 q; have T58 := trivial))
            have OTH : Hid (Sl (w9.alloc (.cells #[.int .u64 1, .int .i64 1, .int .u64 0, .int .u64 0, .int .u64 2, .int .i64 3, .int .u64 1, .int .u64 1, .int .u64 1, .int .i64 3, .int .u64 1, .int .u64 1, .int .u64 1, .int .i64 3, .int .u64 1, .int .u64 1, .int .u64 1, .int .i64 3, .int .u64 1, .int .u64 3, .int .u64 1, .int .i64 3, .int .u64 1, .int .u64 2] 33)) (some ⟨w9.heap.size, 0, none⟩) 6 [(1, 1, 0, 0), (2, 3, 1, 1), (1, 3, 1, 1), (1, 3, 1, 1), (1, 3, 1, 3), (1, 3, 1, 2)]) := Lib.hid (sl_lit w9 [(1, 1, 0, 0), (2, 3, 1, 1), (1, 3, 1, 1), (1, 3, 1, 1), (1, 3, 1, 3), (1, 3, 1, 2)] 6 _ rfl rfl (by unfold maxLen; omega))
            have BW' := Lib.hid (grew_trans BW.out (al w9 (.cells #[.int .u64 1, .int .i64 1, .int .u64 0, .int .u64 0, .int .u64 2, .int .i64 3, .int .u64 1, .int .u64 1, .int .u64 1, .int .i64 3, .int .u64 1, .int .u64 1, .int .u64 1, .int .i64 3, .int .u64 1, .int .u64 1, .int .u64 1, .int .i64 3, .int .u64 1, .int .u64 3, .int .u64 1, .int .i64 3, .int .u64 1, .int .u64 2] 33))); clear BW; have BW := BW'; clear BW'
            have TWO' := Lib.hid (TWO.out.below (al w9 (.cells #[.int .u64 1, .int .i64 1, .int .u64 0, .int .u64 0, .int .u64 2, .int .i64 3, .int .u64 1, .int .u64 1, .int .u64 1, .int .i64 3, .int .u64 1, .int .u64 1, .int .u64 1, .int .i64 3, .int .u64 1, .int .u64 1, .int .u64 1, .int .i64 3, .int .u64 1, .int .u64 3, .int .u64 1, .int .i64 3, .int .u64 1, .int .u64 2] 33))); clear TWO; have TWO := TWO'; clear TWO'
            have PAIR' := Lib.hid (PAIR.out.below (al w9 (.cells #[.int .u64 1, .int .i64 1, .int .u64 0, .int .u64 0, .int .u64 2, .int .i64 3, .int .u64 1, .int .u64 1, .int .u64 1, .int .i64 3, .int .u64 1, .int .u64 1, .int .u64 1, .int .i64 3, .int .u64 1, .int .u64 1, .int .u64 1, .int .i64 3, .int .u64 1, .int .u64 3, .int .u64 1, .int .i64 3, .int .u64 1, .int .u64 2] 33))); clear PAIR; have PAIR := PAIR'; clear PAIR'
            have ALL' := Lib.hid (ALL.out.below (al w9 (.cells #[.int .u64 1, .int .i64 1, .int .u64 0, .int .u64 0, .int .u64 2, .int .i64 3, .int .u64 1, .int .u64 1, .int .u64 1, .int .i64 3, .int .u64 1, .int .u64 1, .int .u64 1, .int .i64 3, .int .u64 1, .int .u64 1, .int .u64 1, .int .i64 3, .int .u64 1, .int .u64 3, .int .u64 1, .int .i64 3, .int .u64 1, .int .u64 2] 33))); clear ALL; have ALL := ALL'; clear ALL'
            clear TWO PAIR
            go_wp2_with (first
              | (have q := T58; go_at_call 21; refine (fold_len _ _ 7 [(1, 1, 0, 0), (1, 2, 0, 0), (1, 3, 1, 1), (3, 1, 0, 0), (1, 2, 0, 0), (1, 3, 1, 2), (3, 2, 0, 0)] 4 rfl _ ALL.out (by omega) (3, 1, false, [(1, 1)]) (by decide +kernel)).mono ?_; intro e w9 hp; obtain ⟨a9, c9, rfl, hg9, b58⟩ := line_form hp (n := 1) rfl; have BW' := Lib.hid (grew_trans BW.out b58); clear BW; have BW := BW'; clear BW'; have ALL' := Lib.hid (ALL.out.below b58); clear ALL; have ALL := ALL'; clear ALL'; have OTH' := Lib.hid (OTH.out.below b58); clear OTH; have OTH := OTH'; clear OTH'; have LG := Lib.hid (hg9); clear T58 q; have T59 := trivial)
              | (have q := T59; go_at_call 31; refine (guid_new 1 1 _).mono ?_; rintro e w9 ⟨rfl, b59⟩; have BW' := Lib.hid (grew_trans BW.out b59); clear BW; have BW := BW'; clear BW'; have ALL' := Lib.hid (ALL.out.below b59); clear ALL; have ALL := ALL'; clear ALL'; have OTH' := Lib.hid (OTH.out.below b59); clear OTH; have OTH := OTH'; clear OTH'; have LG' := Lib.hid (gids_below LG.out b59); clear LG; have LG := LG'; clear LG'; clear T59 q; have T60 := trivial)
              | (have q := T60; go_at_call 33; refine (is_len 3 1 3 1 false false [(1, 1)] [(1, 1)] _ _ _ _ 1 1 rfl rfl _ (gids_below LG.out (al _ _)) (gids_lit _ [(1, 1)] _ rfl) (by unfold maxLen; omega) true (by decide)).mono ?_; rintro e w9 ⟨rfl, b60⟩; have BW' := Lib.hid (grew_trans BW.out (grew_trans (al _ _) b60)); clear BW; have BW := BW'; clear BW'; have ALL' := Lib.hid (ALL.out.below (grew_trans (al _ _) b60)); clear ALL; have ALL := ALL'; clear ALL'; have OTH' := Lib.hid (OTH.out.below (grew_trans (al _ _) b60)); clear OTH; have OTH := OTH'; clear OTH'; clear T60 q LG; have T61 := trivial)
              | (have q := T61; go_at_call 21; refine (fold_len _ _ 7 [(1, 1, 0, 0), (1, 2, 0, 0), (1, 3, 1, 1), (3, 1, 0, 0), (1, 2, 0, 0), (1, 3, 1, 2), (3, 2, 0, 0)] 3 rfl _ ALL.out (by omega) (1, 0, true, [(1, 1)]) (by decide +kernel)).mono ?_; intro e w9 hp; obtain ⟨a9, c9, rfl, hg9, b61⟩ := line_form hp (n := 1) rfl; have BW' := Lib.hid (grew_trans BW.out b61); clear BW; have BW := BW'; clear BW'; have ALL' := Lib.hid (ALL.out.below b61); clear ALL; have ALL := ALL'; clear ALL'; have OTH' := Lib.hid (OTH.out.below b61); clear OTH; have OTH := OTH'; clear OTH'; have LG := Lib.hid (hg9); clear T61 q; have T62 := trivial)
              | (have q := T62; go_at_call 31; refine (guid_new 1 1 _).mono ?_; rintro e w9 ⟨rfl, b62⟩; have BW' := Lib.hid (grew_trans BW.out b62); clear BW; have BW := BW'; clear BW'; have ALL' := Lib.hid (ALL.out.below b62); clear ALL; have ALL := ALL'; clear ALL'; have OTH' := Lib.hid (OTH.out.below b62); clear OTH; have OTH := OTH'; clear OTH'; have LG' := Lib.hid (gids_below LG.out b62); clear LG; have LG := LG'; clear LG'; clear T62 q; have T63 := trivial)
              | (have q := T63; go_at_call 33; refine (is_len 1 0 1 0 true true [(1, 1)] [(1, 1)] _ _ _ _ 1 1 rfl rfl _ (gids_below LG.out (al _ _)) (gids_lit _ [(1, 1)] _ rfl) (by unfold maxLen; omega) true (by decide)).mono ?_; rintro e w9 ⟨rfl, b63⟩; have BW' := Lib.hid (grew_trans BW.out (grew_trans (al _ _) b63)); clear BW; have BW := BW'; clear BW'; have ALL' := Lib.hid (ALL.out.below (grew_trans (al _ _) b63)); clear ALL; have ALL := ALL'; clear ALL'; have OTH' := Lib.hid (OTH.out.below (grew_trans (al _ _) b63)); clear OTH; have OTH := OTH'; clear OTH'; clear T63 q LG; have T64 := trivial)
              | (have q := T64; go_at_call 21; refine (fold_len _ _ 7 [(1, 1, 0, 0), (1, 2, 0, 0), (1, 3, 1, 1), (3, 1, 0, 0), (1, 2, 0, 0), (1, 3, 1, 2), (3, 2, 0, 0)] 1 rfl _ ALL.out (by omega) (1, 0, false, []) (by decide +kernel)).mono ?_; intro e w9 hp; obtain ⟨a9, c9, rfl, hg9, b64⟩ := line_form hp (n := 0) rfl; have BW' := Lib.hid (grew_trans BW.out b64); clear BW; have BW := BW'; clear BW'; have ALL' := Lib.hid (ALL.out.below b64); clear ALL; have ALL := ALL'; clear ALL'; have OTH' := Lib.hid (OTH.out.below b64); clear OTH; have OTH := OTH'; clear OTH'; have LG := Lib.hid (hg9); clear T64 q; have T65 := trivial)
              | (have q := T65; go_at_call 33; refine (is_len 1 0 1 0 false false [] [] _ _ _ _ 0 0 rfl rfl _ LG.out (gids_none _) (by unfold maxLen; omega) true (by decide)).mono ?_; rintro e w9 ⟨rfl, b65⟩; have BW' := Lib.hid (grew_trans BW.out b65); clear BW; have BW := BW'; clear BW'; have ALL' := Lib.hid (ALL.out.below b65); clear ALL; have ALL := ALL'; clear ALL'; have OTH' := Lib.hid (OTH.out.below b65); clear OTH; have OTH := OTH'; clear OTH'; clear T65 q LG; have T66 := trivial)
              | (have q := T66; go_at_call 21; refine (fold_len _ _ 7 [(1, 1, 0, 0), (1, 2, 0, 0), (1, 3, 1, 1), (3, 1, 0, 0), (1, 2, 0, 0), (1, 3, 1, 2), (3, 2, 0, 0)] 7 rfl _ ALL.out (by omega) (3, 1, true, [(1, 1)]) (by decide +kernel)).mono ?_; intro e w9 hp; obtain ⟨a9, c9, rfl, hg9, b66⟩ := line_form hp (n := 1) rfl; have BW' := Lib.hid (grew_trans BW.out b66); clear BW; have BW := BW'; clear BW'; have ALL' := Lib.hid (ALL.out.below b66); clear ALL; have ALL := ALL'; clear ALL'; have OTH' := Lib.hid (OTH.out.below b66); clear OTH; have OTH := OTH'; clear OTH'; have LG := Lib.hid (hg9); clear T66 q; have T67 := trivial)
              | (have q := T67; go_at_call 31; refine (guid_new 1 1 _).mono ?_; rintro e w9 ⟨rfl, b67⟩; have BW' := Lib.hid (grew_trans BW.out b67); clear BW; have BW := BW'; clear BW'; have ALL' := Lib.hid (ALL.out.below b67); clear ALL; have ALL := ALL'; clear ALL'; have OTH' := Lib.hid (OTH.out.below b67); clear OTH; have OTH := OTH'; clear OTH'; have LG' := Lib.hid (gids_below LG.out b67); clear LG; have LG := LG'; clear LG'; clear T67 q; have T68 := trivial)
              | (have q := T68; go_at_call 33; refine (is_len 3 1 3 1 true true [(1, 1)] [(1, 1)] _ _ _ _ 1 1 rfl rfl _ (gids_below LG.out (al _ _)) (gids_lit _ [(1, 1)] _ rfl) (by unfold maxLen; omega) true (by decide)).mono ?_; rintro e w9 ⟨rfl, b68⟩; have BW' := Lib.hid (grew_trans BW.out (grew_trans (al _ _) b68)); clear BW; have BW := BW'; clear BW'; have ALL' := Lib.hid (ALL.out.below (grew_trans (al _ _) b68)); clear ALL; have ALL := ALL'; clear ALL'; have OTH' := Lib.hid (OTH.out.below (grew_trans (al _ _) b68)); clear OTH; have OTH := OTH'; clear OTH'; clear T68 q LG; have T69 := trivial)
              | (have q := T69; go_at_call 21; refine (fold_len _ _ 7 [(1, 1, 0, 0), (1, 2, 0, 0), (1, 3, 1, 1), (3, 1, 0, 0), (1, 2, 0, 0), (1, 3, 1, 2), (3, 2, 0, 0)] 6 rfl _ ALL.out (by omega) (3, 1, false, [(1, 1)]) (by decide +kernel)).mono ?_; intro e w9 hp; obtain ⟨a9, c9, rfl, hg9, b69⟩ := line_form hp (n := 1) rfl; have BW' := Lib.hid (grew_trans BW.out b69); clear BW; have BW := BW'; clear BW'; have ALL' := Lib.hid (ALL.out.below b69); clear ALL; have ALL := ALL'; clear ALL'; have OTH' := Lib.hid (OTH.out.below b69); clear OTH; have OTH := OTH'; clear OTH'; have LG := Lib.hid (hg9); clear T69 q; have T70 := trivial)
              | (have q := T70; go_at_call 31; refine (guid_new 1 1 _).mono ?_; rintro e w9 ⟨rfl, b70⟩; have BW' := Lib.hid (grew_trans BW.out b70); clear BW; have BW := BW'; clear BW'; have ALL' := Lib.hid (ALL.out.below b70); clear ALL; have ALL := ALL'; clear ALL'; have OTH' := Lib.hid (OTH.out.below b70); clear OTH; have OTH := OTH'; clear OTH'; have LG' := Lib.hid (gids_below LG.out b70); clear LG; have LG := LG'; clear LG'; clear T70 q; have T71 := trivial)
              | (have q := T71; go_at_call 33; refine (is_len 3 1 3 1 false false [(1, 1)] [(1, 1)] _ _ _ _ 1 1 rfl rfl _ (gids_below LG.out (al _ _)) (gids_lit _ [(1, 1)] _ rfl) (by unfold maxLen; omega) true (by decide)).mono ?_; rintro e w9 ⟨rfl, b71⟩; have BW' := Lib.hid (grew_trans BW.out (grew_trans (al _ _) b71)); clear BW; have BW := BW'; clear BW'; have ALL' := Lib.hid (ALL.out.below (grew_trans (al _ _) b71)); clear ALL; have ALL := ALL'; clear ALL'; have OTH' := Lib.hid (OTH.out.below (grew_trans (al _ _) b71)); clear OTH; have OTH := OTH'; clear OTH'; clear T71 q LG; have T72 := trivial)
              | (have q := T72; go_at_call 21; refine (fold_len _ _ 7 [(1, 1, 0, 0), (1, 2, 0, 0), (1, 3, 1, 1), (3, 1, 0, 0), (1, 2, 0, 0), (1, 3, 1, 2), (3, 2, 0, 0)] 99 rfl _ ALL.out (by omega) (3, 1, true, [(1, 1)]) (by decide +kernel)).mono ?_; intro e w9 hp; obtain ⟨a9, c9, rfl, hg9, b72⟩ := line_form hp (n := 1) rfl; have BW' := Lib.hid (grew_trans BW.out b72); clear BW; have BW := BW'; clear BW'; have ALL' := Lib.hid (ALL.out.below b72); clear ALL; have ALL := ALL'; clear ALL'; have OTH' := Lib.hid (OTH.out.below b72); clear OTH; have OTH := OTH'; clear OTH'; have LG := Lib.hid (hg9); clear T72 q; have T73 := trivial)
              | (have q := T73; go_at_call 31; refine (guid_new 1 1 _).mono ?_; rintro e w9 ⟨rfl, b73⟩; have BW' := Lib.hid (grew_trans BW.out b73); clear BW; have BW := BW'; clear BW'; have ALL' := Lib.hid (ALL.out.below b73); clear ALL; have ALL := ALL'; clear ALL'; have OTH' := Lib.hid (OTH.out.below b73); clear OTH; have OTH := OTH'; clear OTH'; have LG' := Lib.hid (gids_below LG.out b73); clear LG; have LG := LG'; clear LG'; clear T73 q; have T74 := trivial)
              | (have q := T74; go_at_call 33; refine (is_len 3 1 3 1 true true [(1, 1)] [(1, 1)] _ _ _ _ 1 1 rfl rfl _ (gids_below LG.out (al _ _)) (gids_lit _ [(1, 1)] _ rfl) (by unfold maxLen; omega) true (by decide)).mono ?_; rintro e w9 ⟨rfl, b74⟩; have BW' := Lib.hid (grew_trans BW.out (grew_trans (al _ _) b74)); clear BW; have BW := BW'; clear BW'; have ALL' := Lib.hid (ALL.out.below (grew_trans (al _ _) b74)); clear ALL; have ALL := ALL'; clear ALL'; have OTH' := Lib.hid (OTH.out.below (grew_trans (al _ _) b74)); clear OTH; have OTH := OTH'; clear OTH'; clear T74 q LG; have T75 := trivial)
              | (have q := T75; go_at_call 21; refine (fold_len _ _ 7 [(1, 1, 0, 0), (1, 2, 0, 0), (1, 3, 1, 1), (3, 1, 0, 0), (1, 2, 0, 0), (1, 3, 1, 2), (3, 2, 0, 0)] (-1) rfl _ ALL.out (by omega) (0, 0, false, []) (by decide +kernel)).mono ?_; intro e w9 hp; obtain ⟨a9, c9, rfl, hg9, b75⟩ := line_form hp (n := 0) rfl; have BW' := Lib.hid (grew_trans BW.out b75); clear BW; have BW := BW'; clear BW'; have ALL' := Lib.hid (ALL.out.below b75); clear ALL; have ALL := ALL'; clear ALL'; have OTH' := Lib.hid (OTH.out.below b75); clear OTH; have OTH := OTH'; clear OTH'; have LG := Lib.hid (hg9); clear T75 q; have T76 := trivial)
              | (have q := T76; go_at_call 33; refine (is_len 0 0 0 0 false false [] [] _ _ _ _ 0 0 rfl rfl _ LG.out (gids_none _) (by unfold maxLen; omega) true (by decide)).mono ?_; rintro e w9 ⟨rfl, b76⟩; have BW' := Lib.hid (grew_trans BW.out b76); clear BW; have BW := BW'; clear BW'; have ALL' := Lib.hid (ALL.out.below b76); clear ALL; have ALL := ALL'; clear ALL'; have OTH' := Lib.hid (OTH.out.below b76); clear OTH; have OTH := OTH'; clear OTH'; clear T76 q LG; have T77 := trivial)
              | (have q := T77; go_at_call 21; refine (fold_len _ _ 6 [(1, 1, 0, 0), (2, 3, 1, 1), (1, 3, 1, 1), (1, 3, 1, 1), (1, 3, 1, 3), (1, 3, 1, 2)] 6 rfl _ OTH.out (by omega) (1, 0, false, [(1, 1), (1, 3)]) (by decide +kernel)).mono ?_; intro e w9 hp; obtain ⟨a9, c9, rfl, hg9, b77⟩ := line_form hp (n := 2) rfl; have BW' := Lib.hid (grew_trans BW.out b77); clear BW; have BW := BW'; clear BW'; have ALL' := Lib.hid (ALL.out.below b77); clear ALL; have ALL := ALL'; clear ALL'; have OTH' := Lib.hid (OTH.out.below b77); clear OTH; have OTH := OTH'; clear OTH'; have LG := Lib.hid (hg9); clear T77 q; have T78 := trivial)
              | (have q := T78; go_at_call 31; refine (guid_new 1 1 _).mono ?_; rintro e w9 ⟨rfl, b78⟩; have BW' := Lib.hid (grew_trans BW.out b78); clear BW; have BW := BW'; clear BW'; have ALL' := Lib.hid (ALL.out.below b78); clear ALL; have ALL := ALL'; clear ALL'; have OTH' := Lib.hid (OTH.out.below b78); clear OTH; have OTH := OTH'; clear OTH'; have LG' := Lib.hid (gids_below LG.out b78); clear LG; have LG := LG'; clear LG'; clear T78 q; have T79 := trivial)
              | (have q := T79; go_at_call 31; refine (guid_new 1 3 _).mono ?_; rintro e w9 ⟨rfl, b79⟩; have BW' := Lib.hid (grew_trans BW.out b79); clear BW; have BW := BW'; clear BW'; have ALL' := Lib.hid (ALL.out.below b79); clear ALL; have ALL := ALL'; clear ALL'; have OTH' := Lib.hid (OTH.out.below b79); clear OTH; have OTH := OTH'; clear OTH'; have LG' := Lib.hid (gids_below LG.out b79); clear LG; have LG := LG'; clear LG'; clear T79 q; have T80 := trivial)
              | (have q := T80; go_at_call 33; refine (is_len 1 0 1 0 false false [(1, 1), (1, 3)] [(1, 1), (1, 3)] _ _ _ _ 2 2 rfl rfl _ (gids_below LG.out (al _ _)) (gids_lit _ [(1, 1), (1, 3)] _ rfl) (by unfold maxLen; omega) true (by decide)).mono ?_; rintro e w9 ⟨rfl, b80⟩; have BW' := Lib.hid (grew_trans BW.out (grew_trans (al _ _) b80)); clear BW; have BW := BW'; clear BW'; have ALL' := Lib.hid (ALL.out.below (grew_trans (al _ _) b80)); clear ALL; have ALL := ALL'; clear ALL'; have OTH' := Lib.hid (OTH.out.below (grew_trans (al _ _) b80)); clear OTH; have OTH := OTH'; clear OTH'; clear T80 q LG; have T81 := trivial)
              | (have q := T81; go_at_call 16; refine (works_any _).mono ?_; rintro e w9 ⟨rfl, b81⟩; have BW' := Lib.hid (grew_trans BW.out b81); clear BW; have BW := BW'; clear BW'; have ALL' := Lib.hid (ALL.out.below b81); clear ALL; have ALL := ALL'; clear ALL'; have OTH' := Lib.hid (OTH.out.below b81); clear OTH; have OTH := OTH'; clear OTH'; clear T81 q; have T82 := trivial))
            go_ret
            exact retB rfl BW.out
end Go.Proofs.Ythfchmdfoaiibaa
