/- What the first entries of a log say: the document's answer. -/
import Derived.Test.YthfchmdfoaiibaaFold3
namespace Go.Proofs.Ythfchmdfoaiibaa
open Go.RowKit Go.Joins

theorem res22 (tmps : Array Value) (w : World) (R : Nat) (s1 s2 : Int) (s3 : Bool) (v : Value) (h4 : tmps.getD 4 undef = .pointer (some ⟨R, 0, none⟩)) (hR : w.heap[R]? = some (.cells #[.int .u64 s1, .int .i64 s2, .bool s3, v] 38 (0, 0))) :
    (results Try.f22 tmps).run Try.prog w = .ok (.agg #[.int .u64 s1, .int .i64 s2, .bool s3, v]) w := by
  have h4' : tmps[4]?.getD undef = .pointer (some ⟨R, 0, none⟩) := by simpa using h4
  have r0 := cell_of_block hR 0
  have r1 := cell_of_block hR 1
  have r2 := cell_of_block hR 2
  have r3 := cell_of_block hR 3
  simp only [List.getElem?_toArray, List.getElem?_cons_zero, List.getElem?_cons_succ] at r0 r1 r2 r3
  simp [results, Try.results22, h4', asAddr, r0, r1, r2, r3, go_sem]

set_option maxRecDepth 100000 in
set_option maxHeartbeats 8000000 in
theorem rfold_any (a : Option Addr) (cap : Nat) (es : List Ent) (commit : Int) (w : World) (h : Sl w a cap es) (hlen : es.length < 100000) :
    Calls Try.prog 22 #[.slice a es.length cap, .int .i64 commit] w (LinePost (foldL (es.take (cut commit es.length))) w) := by
  have HS := Lib.hid h
  have hll := h.len
  have hlc := h.capm
  unfold maxLen at hlc
  have hz := fun (w : World) => (by kernel_rfl : (zeroValue 38).run Try.prog w = .ok (.agg #[.int .u64 0, .int .i64 0, .bool false, .slice none 0 0]) w)
  clear h
  have hW : Hid (∀ o1 o2, Below w.heap.size w ((w.alloc o1).alloc o2) ∧ ((w.alloc o1).alloc o2).heap.size = w.heap.size + 1 + 1) := fun o1 o2 => ⟨((Below.refl _ w).alloc (Nat.le_refl _) _).alloc (by simp) _, by simp⟩
  have hL0 : Hid (LineAt ((w.alloc (.cells #[.int .u64 0, .int .i64 0, .bool false, .slice none 0 0] 38)).alloc (.cells #[.int .u64 0, .int .i64 0, .bool false, .slice none 0 0] 38)) (w.heap.size + 1 + 1) (w.heap.size + 1) (foldL (es.take 0))) := by
    refine ⟨_, ?_, ownG_nil _ _⟩
    have := World.alloc_heap_new (w.alloc (.cells #[.int .u64 0, .int .i64 0, .bool false, .slice none 0 0] 38)) (.cells #[.int .u64 0, .int .i64 0, .bool false, .slice none 0 0] 38)
    rw [World.size_alloc] at this
    exact this
  have hR0 : Hid (((w.alloc (.cells #[.int .u64 0, .int .i64 0, .bool false, .slice none 0 0] 38)).alloc (.cells #[.int .u64 0, .int .i64 0, .bool false, .slice none 0 0] 38)).heap[w.heap.size]? = some (.cells #[.int .u64 0, .int .i64 0, .bool false, .slice none 0 0] 38 (0, 0))) :=
    (Below.heap_alloc _ _ _ (by simp)).trans (World.alloc_heap_new w _)
  have hcl := cut_le commit es.length
  have hci : Hid (∀ i : Nat, i < cut commit es.length ↔ i < es.length ∧ (i : Int) < commit) := fun i => by unfold cut; omega
  generalize cut commit es.length = c at *
  go_enter Try.func22, Try.ntmps22
  go_wp2
  have HA := Lib.hid (hW.out (.cells #[.int .u64 0, .int .i64 0, .bool false, .slice none 0 0] 38) (.cells #[.int .u64 0, .int .i64 0, .bool false, .slice none 0 0] 38))
  generalize (w.alloc (.cells #[.int .u64 0, .int .i64 0, .bool false, .slice none 0 0] 38)).alloc (.cells #[.int .u64 0, .int .i64 0, .bool false, .slice none 0 0] 38) = W0 at *
  clear hW hz
  generalize hBd : w.heap.size + 1 = B at *
  have HBd := Lib.hid hBd
  clear hBd
  go_loopg [6, 7, 8] c (fun k v6 v7 v8 wr => ∃ i : Nat, i + k = c ∧ v6 = .int .i64 (i : Int) ∧ LineAt wr (B + 1) B (foldL (es.take i)) ∧ Below B W0 wr)
  case atStart => exact ⟨0, by omega, rfl, hL0.out, Below.refl _ _⟩
  case round =>
    obtain ⟨i, hik, rfl, hLn, hB⟩ := hrel
    have HLn := Lib.hid hLn
    have HB := Lib.hid hB
    have hBw : Hid (Below w.heap.size w wr) := HA.out.1.trans (hB.mono (by have := HBd.out; omega))
    have hsz : B + 1 ≤ wr.heap.size := by have := hB.size; have := HA.out.2; omega
    clear hLn hB
    by_cases hlt : i < c
    · have hii := (hci.out i).1 hlt
      have hi1 := hii.1
      have hi2 := hii.2
      obtain ⟨b, off, rfl, g⟩ := (HS.out.below hBw.out).ents i hi1
      have hst : Hid (foldL (es.take (i + 1)) = lstep (foldL (es.take i)) (es.getD i default)) := by rw [Hid, take_snoc es i default hi1, foldL_snoc]
      have hgl : (foldL (es.take i)).2.2.2.length < 100000 := by have := foldL_len es i (by omega); omega
      clear hii
      generalize foldL (es.take i) = s at *
      generalize es.getD i default = x at *
      obtain ⟨x1, x2, x3, x4⟩ := x
      obtain ⟨s1, s2, s3, gs⟩ := s
      obtain ⟨g1, g2, g3, g4⟩ := g
      simp only at g1 g2 g3 g4 hgl
      obtain ⟨v, hL, hO⟩ := HLn.out
      change OwnG wr (B + 1) v gs at hO
      obtain ⟨ga, gc, rfl, hG, hgn, hgl2, hgm, -⟩ := own_gids hO
      unfold LineIs at hL
      have hBl : B < wr.heap.size := (Array.getElem?_eq_some_iff.1 hL).1
      have c0 := cell_of_block hL 0
      have c1 := cell_of_block hL 1
      have c2 := cell_of_block hL 2
      have c3 := cell_of_block hL 3
      simp only [List.getElem?_toArray, List.getElem?_cons_zero, List.getElem?_cons_succ] at c0 c1 c2 c3
      have f0 := unfrozen_of_block hL 0
      have f1 := unfrozen_of_block hL 1
      have f2 := unfrozen_of_block hL 2
      have f3 := unfrozen_of_block hL 3
      have HL := Lib.hid hL
      have HO := Lib.hid hO
      clear hL hO
      have hS : Hid (∀ l, lstep (s1, s2, s3, gs) (x1, x2, x3, x4) = l ↔ (if x2 = 1 then (x1, (gs.length : Int), false, gs) else if x2 = 2 ∧ x1 = s1 then (s1, s2, true, gs) else if brings (s1, s2, s3, gs) (x1, x2, x3, x4) = true then (s1, s2, s3, gs ++ [(x3, x4)]) else (s1, s2, s3, gs)) = l) := fun l => Iff.rfl
      have hBr : Hid (brings (s1, s2, s3, gs) (x1, x2, x3, x4) = (decide (x2 = 3) && decide (x1 = s1) && decide (x3 = x1) && (decide (gs.length = 0) || aboveB (x3, x4) (lastG gs)))) := rfl
      have hbw : Hid (∀ o, Below B wr (wr.alloc o)) := fun o => (Below.refl _ wr).alloc (by omega) o
      by_cases k1 : x2 = 1
      · subst k1
        have hR : Hid (lstep (s1, s2, s3, gs) (x1, 1, x3, x4) = (x1, (gs.length : Int), false, gs)) := by rw [Hid, hS.out, if_pos rfl]
        clear hS hBr
        go_wp2
        go_roundg (gk - 1)
        case measure => omega
        case rel => exact ⟨i + 1, by omega, by simp, by rw [hst.out, hR.out]; exact LineAt.set3 HL.out HO.out _ _ _ _, HB.out.trans (((((Below.refl B wr).setCell (p := ⟨B, 0, none⟩) (Nat.le_refl B) _).setCell (p := ⟨B, 1, none⟩) (Nat.le_refl B) _).setCell (p := ⟨B, 2, none⟩) (Nat.le_refl B) _).alloc (by simp [World.setCell]; omega) _)⟩
      have b1 : (x2 == 1) = false := by simpa using k1
      by_cases k2 : x2 = 2
      · subst k2
        by_cases ke : x1 = s1
        · subst ke
          have hR : Hid (lstep (x1, s2, s3, gs) (x1, 2, x3, x4) = (x1, s2, true, gs)) := by rw [Hid, hS.out, if_neg (by decide), if_pos ⟨rfl, rfl⟩]
          clear hS hBr k1
          cases s3 with
          | true =>
            go_wp2
            go_roundg (gk - 1)
            case measure => omega
            case rel => exact ⟨i + 1, by omega, by simp, by rw [hst.out, hR.out]; exact LineAt.setl HL.out HO.out _ _, HB.out.trans (((Below.refl B wr).setCell (p := ⟨B, 2, none⟩) (Nat.le_refl B) _).alloc (by simp [World.setCell]; omega) _)⟩
          | false =>
            go_wp2
            go_roundg (gk - 1)
            case measure => omega
            case rel => exact ⟨i + 1, by omega, by simp, by rw [hst.out, hR.out]; exact LineAt.setl HL.out HO.out _ _, HB.out.trans (((Below.refl B wr).setCell (p := ⟨B, 2, none⟩) (Nat.le_refl B) _).alloc (by simp [World.setCell]; omega) _)⟩
        · have be : (x1 == s1) = false := by simpa using ke
          have hR : Hid (lstep (s1, s2, s3, gs) (x1, 2, x3, x4) = (s1, s2, s3, gs)) := by
            rw [Hid, hS.out, if_neg (by decide), if_neg (by simp [ke]), hBr.out, if_neg (by simp)]
          clear hS hBr k1 ke
          cases s3 with
          | true =>
            go_wp2
            go_roundg (gk - 1)
            case measure => omega
            case rel => exact ⟨i + 1, by omega, by simp, by rw [hst.out, hR.out]; exact LineAt.setl HL.out HO.out _ _, HB.out.trans (((Below.refl B wr).setCell (p := ⟨B, 2, none⟩) (Nat.le_refl B) _).alloc (by simp [World.setCell]; omega) _)⟩
          | false =>
            go_wp2
            go_roundg (gk - 1)
            case measure => omega
            case rel => exact ⟨i + 1, by omega, by simp, by rw [hst.out, hR.out]; exact LineAt.setl HL.out HO.out _ _, HB.out.trans (((Below.refl B wr).setCell (p := ⟨B, 2, none⟩) (Nat.le_refl B) _).alloc (by simp [World.setCell]; omega) _)⟩
      have b2 : (x2 == 2) = false := by simpa using k2
      by_cases k3 : x2 = 3
      · subst k3
        by_cases kg : x3 = x1
        · subst kg
          by_cases ke : x3 = s1
          · subst ke
            by_cases k0 : gs.length = 0
            · have hR : Hid (lstep (x3, s2, s3, gs) (x3, 3, x3, x4) = (x3, s2, s3, gs ++ [(x3, x4)])) := by
                rw [Hid, hS.out, if_neg (by decide), if_neg (by simp), hBr.out, if_pos (by simp [k0])]
              have k0b : ((gs.length : Int) == 0) = true := by simp [k0]
              clear hS hBr k1 k2 k0
              go_wp2
              have e0 : (wr.alloc (.cells #[.int .u64 x3, .int .i64 3, .int .u64 x3, .int .u64 x4] 33)).cell? ⟨wr.heap.size, 0, none⟩ = some (.int .u64 x3) := World.cell?_alloc_at _ _ _ _ rfl
              have e1 : (wr.alloc (.cells #[.int .u64 x3, .int .i64 3, .int .u64 x3, .int .u64 x4] 33)).cell? ⟨wr.heap.size, 1, none⟩ = some (.int .i64 3) := World.cell?_alloc_at _ _ _ _ rfl
              have e2 : (wr.alloc (.cells #[.int .u64 x3, .int .i64 3, .int .u64 x3, .int .u64 x4] 33)).cell? ⟨wr.heap.size, 2, none⟩ = some (.int .u64 x3) := World.cell?_alloc_at _ _ _ _ rfl
              have e3 : (wr.alloc (.cells #[.int .u64 x3, .int .i64 3, .int .u64 x3, .int .u64 x4] 33)).cell? ⟨wr.heap.size, 3, none⟩ = some (.int .u64 x4) := World.cell?_alloc_at _ _ _ _ rfl
              have hA1 : Hid (LineAt (wr.alloc (.cells #[.int .u64 x3, .int .i64 3, .int .u64 x3, .int .u64 x4] 33)) (B + 1) B (x3, s2, s3, gs)) := LineAt.same (s := (x3, s2, s3, gs)) HL.out HO.out _
              have hW1 : Below wr.heap.size wr (wr.alloc (.cells #[.int .u64 x3, .int .i64 3, .int .u64 x3, .int .u64 x4] 33)) := (Below.refl _ wr).alloc (Nat.le_refl _) _
              have hl0 := (hW1.cell (World.block_lt_of_cell? _ _ c0)).trans c0
              have hl3 := (hW1.cell (World.block_lt_of_cell? _ _ c3)).trans c3
              have hbw1 := hbw.out (.cells #[.int .u64 x3, .int .i64 3, .int .u64 x3, .int .u64 x4] 33)
              have hL1 : Hid ((wr.alloc (.cells #[.int .u64 x3, .int .i64 3, .int .u64 x3, .int .u64 x4] 33)).heap[B]? = some (.cells #[.int .u64 x3, .int .i64 s2, .bool s3, .slice ga gs.length gc] 38 (0, 0))) := (hW1.block B hBl).trans HL.out
              have hO1 : Hid (OwnG (wr.alloc (.cells #[.int .u64 x3, .int .i64 3, .int .u64 x3, .int .u64 x4] 33)) (B + 1) (.slice ga gs.length gc) gs) := own_below HO.out hW1
              have hsz1 : wr.heap.size ≤ (wr.alloc (.cells #[.int .u64 x3, .int .i64 3, .int .u64 x3, .int .u64 x4] 33)).heap.size := hW1.size
              generalize wr.alloc (.cells #[.int .u64 x3, .int .i64 3, .int .u64 x3, .int .u64 x4] 33) = W1 at *
              have l0 := fun y : Later W1 => y.cell e0
              have l1 := fun y : Later W1 => y.cell e1
              have l2 := fun y : Later W1 => y.cell e2
              have l3 := fun y : Later W1 => y.cell e3
              have l4 := fun y : Later W1 => y.cell hl0
              have l5 := fun y : Later W1 => y.cell hl3
              refine wp_region_later_lit (by kernel_rfl) (by kernel_rfl) ?_
              repeat (any_goals (first | go_big_quiet_step ((go_at_call 41; exact Calls.laterB (above_ref _ _ _ _ _))) | quiet_step ((go_at_call 41; exact Calls.laterB (above_ref _ _ _ _ _)))))
              refine wpQuiet_nil ?_
              intro _ hw'
              obtain ⟨y, hw''⟩ := hw'
              subst hw''
              have hy := y.h
              generalize y.w = W2 at hy ⊢
              have q3 := (hy.cell (World.block_lt_of_cell? _ _ hl3)).trans hl3
              have q4 := (hy.cell (World.block_lt_of_cell? _ _ e2)).trans e2
              have q5 := (hy.cell (World.block_lt_of_cell? _ _ e3)).trans e3
              have hL2 : Hid (W2.heap[B]? = some (.cells #[.int .u64 x3, .int .i64 s2, .bool s3, .slice ga gs.length gc] 38 (0, 0))) := (hy.block B (Nat.lt_of_lt_of_le hBl hsz1)).trans hL1.out
              have hO2 : Hid (OwnG W2 (B + 1) (.slice ga gs.length gc) gs) := own_below hO1.out hy
              have hs2 : wr.heap.size ≤ W2.heap.size := Nat.le_trans hsz1 hy.size
              go_wp2_with (at_builtin; refine app_gid rfl (.tmp 82) (.tmp 85) rfl (B + 1) _ gs rfl x3 x4 hO2.out rfl (by omega) (by omega) ?_; intro v' W3 hown' hgrow; obtain ⟨a', cap', rfl, -⟩ := own_gids hown'; have hL3 : Hid (W3.heap[B]? = some (.cells #[.int .u64 x3, .int .i64 s2, .bool s3, .slice ga gs.length gc] 38 (0, 0))) := grown_line hL2.out hO2.out hgrow; have q6 := (cell_of_block hL3.out 3).trans (rfl : _ = some (Value.slice ga gs.length gc)); have q7 := unfrozen_of_block hL3.out 3; have hb3 := grown_below (n0 := B) (by omega) hO2.out (Nat.le_succ B) hgrow)
              go_roundg (gk - 1)
              case measure => omega
              case rel => exact ⟨i + 1, by omega, by simp, by rw [hst.out, hR.out]; exact LineAt.more hL3.out (by have hh := hown'; rw [show (gs ++ [(x3, x4)]).length = gs.length + 1 by simp] at hh; exact hh), HB.out.trans (((hbw1.trans (hy.mono (by omega))).trans hb3).setCell (p := ⟨B, 3, none⟩) (Nat.le_refl B) _)⟩
            · have k0b : ((gs.length : Int) == 0) = false := by simp; intro h; simp [h] at k0
              have kp : 0 < gs.length := by omega
              have gi := hG (gs.length - 1) (by omega)
              obtain ⟨gb, goff, rfl, gg1, gg2⟩ := gi
              have hlg : Hid (lastG gs = ((gs.getD (gs.length - 1) default).1, (gs.getD (gs.length - 1) default).2)) := rfl
              generalize (gs.getD (gs.length - 1) default).1 = y1 at gg1 hlg
              generalize (gs.getD (gs.length - 1) default).2 = y2 at gg2 hlg
              by_cases hab : aboveB (x3, x4) (y1, y2) = true
              · have hR : Hid (lstep (x3, s2, s3, gs) (x3, 3, x3, x4) = (x3, s2, s3, gs ++ [(x3, x4)])) := by
                  rw [Hid, hS.out, if_neg (by decide), if_neg (by simp), hBr.out, if_pos (by rw [hlg.out, hab]; simp)]
                clear hS hBr k1 k2 k0
                go_wp2
                have e0 : (wr.alloc (.cells #[.int .u64 x3, .int .i64 3, .int .u64 x3, .int .u64 x4] 33)).cell? ⟨wr.heap.size, 0, none⟩ = some (.int .u64 x3) := World.cell?_alloc_at _ _ _ _ rfl
                have e1 : (wr.alloc (.cells #[.int .u64 x3, .int .i64 3, .int .u64 x3, .int .u64 x4] 33)).cell? ⟨wr.heap.size, 1, none⟩ = some (.int .i64 3) := World.cell?_alloc_at _ _ _ _ rfl
                have e2 : (wr.alloc (.cells #[.int .u64 x3, .int .i64 3, .int .u64 x3, .int .u64 x4] 33)).cell? ⟨wr.heap.size, 2, none⟩ = some (.int .u64 x3) := World.cell?_alloc_at _ _ _ _ rfl
                have e3 : (wr.alloc (.cells #[.int .u64 x3, .int .i64 3, .int .u64 x3, .int .u64 x4] 33)).cell? ⟨wr.heap.size, 3, none⟩ = some (.int .u64 x4) := World.cell?_alloc_at _ _ _ _ rfl
                have hA1 : Hid (LineAt (wr.alloc (.cells #[.int .u64 x3, .int .i64 3, .int .u64 x3, .int .u64 x4] 33)) (B + 1) B (x3, s2, s3, gs)) := LineAt.same (s := (x3, s2, s3, gs)) HL.out HO.out _
                have hW1 : Below wr.heap.size wr (wr.alloc (.cells #[.int .u64 x3, .int .i64 3, .int .u64 x3, .int .u64 x4] 33)) := (Below.refl _ wr).alloc (Nat.le_refl _) _
                have hl0 := (hW1.cell (World.block_lt_of_cell? _ _ c0)).trans c0
                have hl3 := (hW1.cell (World.block_lt_of_cell? _ _ c3)).trans c3
                have hg1 := (hW1.cell (World.block_lt_of_cell? _ _ gg1)).trans gg1
                have hg2 := (hW1.cell (World.block_lt_of_cell? _ _ gg2)).trans gg2
                have hbw1 := hbw.out (.cells #[.int .u64 x3, .int .i64 3, .int .u64 x3, .int .u64 x4] 33)
                have hL1 : Hid ((wr.alloc (.cells #[.int .u64 x3, .int .i64 3, .int .u64 x3, .int .u64 x4] 33)).heap[B]? = some (.cells #[.int .u64 x3, .int .i64 s2, .bool s3, .slice (some ⟨gb, goff, none⟩) gs.length gc] 38 (0, 0))) := (hW1.block B hBl).trans HL.out
                have hO1 : Hid (OwnG (wr.alloc (.cells #[.int .u64 x3, .int .i64 3, .int .u64 x3, .int .u64 x4] 33)) (B + 1) (.slice (some ⟨gb, goff, none⟩) gs.length gc) gs) := own_below HO.out hW1
                have hsz1 : wr.heap.size ≤ (wr.alloc (.cells #[.int .u64 x3, .int .i64 3, .int .u64 x3, .int .u64 x4] 33)).heap.size := hW1.size
                generalize wr.alloc (.cells #[.int .u64 x3, .int .i64 3, .int .u64 x3, .int .u64 x4] 33) = W1 at *
                have l0 := fun y : Later W1 => y.cell e0
                have l1 := fun y : Later W1 => y.cell e1
                have l2 := fun y : Later W1 => y.cell e2
                have l3 := fun y : Later W1 => y.cell e3
                have l4 := fun y : Later W1 => y.cell hl0
                have l5 := fun y : Later W1 => y.cell hl3
                have l6 := fun y : Later W1 => y.cell hg1
                have l7 := fun y : Later W1 => y.cell hg2
                have j1 : IntKind.i64.wrap ((gs.length : Int) - 1) = (gs.length : Int) - 1 := IntWalk.i64_in _ (by omega)
                have j2 : (0 : Int) ≤ (gs.length : Int) - 1 := by omega
                have j3 : ((gs.length : Int) - 1).toNat = gs.length - 1 := by omega
                have j4 : (gs.length : Int) - 1 < (gs.length : Int) := by omega
                refine wp_region_later_lit (by kernel_rfl) (by kernel_rfl) ?_
                repeat (any_goals (first | go_big_quiet_step ((go_at_call 41; exact Calls.laterB (above_ref _ _ _ _ _))) | quiet_step ((go_at_call 41; exact Calls.laterB (above_ref _ _ _ _ _)))))
                refine wpQuiet_nil ?_
                intro _ hw'
                obtain ⟨y, hw''⟩ := hw'
                subst hw''
                have hy := y.h
                generalize y.w = W2 at hy ⊢
                have q3 := (hy.cell (World.block_lt_of_cell? _ _ hl3)).trans hl3
                have q4 := (hy.cell (World.block_lt_of_cell? _ _ e2)).trans e2
                have q5 := (hy.cell (World.block_lt_of_cell? _ _ e3)).trans e3
                have hL2 : Hid (W2.heap[B]? = some (.cells #[.int .u64 x3, .int .i64 s2, .bool s3, .slice (some ⟨gb, goff, none⟩) gs.length gc] 38 (0, 0))) := (hy.block B (Nat.lt_of_lt_of_le hBl hsz1)).trans hL1.out
                have hO2 : Hid (OwnG W2 (B + 1) (.slice (some ⟨gb, goff, none⟩) gs.length gc) gs) := own_below hO1.out hy
                have hs2 : wr.heap.size ≤ W2.heap.size := Nat.le_trans hsz1 hy.size
                go_wp2_with (at_builtin; refine app_gid rfl (.tmp 82) (.tmp 85) rfl (B + 1) _ gs rfl x3 x4 hO2.out rfl (by omega) (by omega) ?_; intro v' W3 hown' hgrow; obtain ⟨a', cap', rfl, -⟩ := own_gids hown'; have hL3 : Hid (W3.heap[B]? = some (.cells #[.int .u64 x3, .int .i64 s2, .bool s3, .slice (some ⟨gb, goff, none⟩) gs.length gc] 38 (0, 0))) := grown_line hL2.out hO2.out hgrow; have q6 := (cell_of_block hL3.out 3).trans (rfl : _ = some (Value.slice (some ⟨gb, goff, none⟩) gs.length gc)); have q7 := unfrozen_of_block hL3.out 3; have hb3 := grown_below (n0 := B) (by omega) hO2.out (Nat.le_succ B) hgrow)
                go_roundg (gk - 1)
                case measure => omega
                case rel => exact ⟨i + 1, by omega, by simp, by rw [hst.out, hR.out]; exact LineAt.more hL3.out (by have hh := hown'; rw [show (gs ++ [(x3, x4)]).length = gs.length + 1 by simp] at hh; exact hh), HB.out.trans (((hbw1.trans (hy.mono (by omega))).trans hb3).setCell (p := ⟨B, 3, none⟩) (Nat.le_refl B) _)⟩
              · have hab2 : aboveB (x3, x4) (y1, y2) = false := by simpa using hab
                have hR : Hid (lstep (x3, s2, s3, gs) (x3, 3, x3, x4) = (x3, s2, s3, gs)) := by
                  rw [Hid, hS.out, if_neg (by decide), if_neg (by simp), hBr.out, if_neg (by rw [hlg.out, hab2]; simpa using k0)]
                clear hS hBr k1 k2 k0 hab
                go_wp2
                have e0 : (wr.alloc (.cells #[.int .u64 x3, .int .i64 3, .int .u64 x3, .int .u64 x4] 33)).cell? ⟨wr.heap.size, 0, none⟩ = some (.int .u64 x3) := World.cell?_alloc_at _ _ _ _ rfl
                have e1 : (wr.alloc (.cells #[.int .u64 x3, .int .i64 3, .int .u64 x3, .int .u64 x4] 33)).cell? ⟨wr.heap.size, 1, none⟩ = some (.int .i64 3) := World.cell?_alloc_at _ _ _ _ rfl
                have e2 : (wr.alloc (.cells #[.int .u64 x3, .int .i64 3, .int .u64 x3, .int .u64 x4] 33)).cell? ⟨wr.heap.size, 2, none⟩ = some (.int .u64 x3) := World.cell?_alloc_at _ _ _ _ rfl
                have e3 : (wr.alloc (.cells #[.int .u64 x3, .int .i64 3, .int .u64 x3, .int .u64 x4] 33)).cell? ⟨wr.heap.size, 3, none⟩ = some (.int .u64 x4) := World.cell?_alloc_at _ _ _ _ rfl
                have hA1 : Hid (LineAt (wr.alloc (.cells #[.int .u64 x3, .int .i64 3, .int .u64 x3, .int .u64 x4] 33)) (B + 1) B (x3, s2, s3, gs)) := LineAt.same (s := (x3, s2, s3, gs)) HL.out HO.out _
                have hW1 : Below wr.heap.size wr (wr.alloc (.cells #[.int .u64 x3, .int .i64 3, .int .u64 x3, .int .u64 x4] 33)) := (Below.refl _ wr).alloc (Nat.le_refl _) _
                have hl0 := (hW1.cell (World.block_lt_of_cell? _ _ c0)).trans c0
                have hl3 := (hW1.cell (World.block_lt_of_cell? _ _ c3)).trans c3
                have hg1 := (hW1.cell (World.block_lt_of_cell? _ _ gg1)).trans gg1
                have hg2 := (hW1.cell (World.block_lt_of_cell? _ _ gg2)).trans gg2
                have hbw1 := hbw.out (.cells #[.int .u64 x3, .int .i64 3, .int .u64 x3, .int .u64 x4] 33)
                have hL1 : Hid ((wr.alloc (.cells #[.int .u64 x3, .int .i64 3, .int .u64 x3, .int .u64 x4] 33)).heap[B]? = some (.cells #[.int .u64 x3, .int .i64 s2, .bool s3, .slice (some ⟨gb, goff, none⟩) gs.length gc] 38 (0, 0))) := (hW1.block B hBl).trans HL.out
                have hO1 : Hid (OwnG (wr.alloc (.cells #[.int .u64 x3, .int .i64 3, .int .u64 x3, .int .u64 x4] 33)) (B + 1) (.slice (some ⟨gb, goff, none⟩) gs.length gc) gs) := own_below HO.out hW1
                have hsz1 : wr.heap.size ≤ (wr.alloc (.cells #[.int .u64 x3, .int .i64 3, .int .u64 x3, .int .u64 x4] 33)).heap.size := hW1.size
                generalize wr.alloc (.cells #[.int .u64 x3, .int .i64 3, .int .u64 x3, .int .u64 x4] 33) = W1 at *
                have l0 := fun y : Later W1 => y.cell e0
                have l1 := fun y : Later W1 => y.cell e1
                have l2 := fun y : Later W1 => y.cell e2
                have l3 := fun y : Later W1 => y.cell e3
                have l4 := fun y : Later W1 => y.cell hl0
                have l5 := fun y : Later W1 => y.cell hl3
                have l6 := fun y : Later W1 => y.cell hg1
                have l7 := fun y : Later W1 => y.cell hg2
                have j1 : IntKind.i64.wrap ((gs.length : Int) - 1) = (gs.length : Int) - 1 := IntWalk.i64_in _ (by omega)
                have j2 : (0 : Int) ≤ (gs.length : Int) - 1 := by omega
                have j3 : ((gs.length : Int) - 1).toNat = gs.length - 1 := by omega
                have j4 : (gs.length : Int) - 1 < (gs.length : Int) := by omega
                refine wp_region_later_lit (by kernel_rfl) (by kernel_rfl) ?_
                repeat (any_goals (first | go_big_quiet_step ((go_at_call 41; exact Calls.laterB (above_ref _ _ _ _ _))) | quiet_step ((go_at_call 41; exact Calls.laterB (above_ref _ _ _ _ _)))))
                refine wpQuiet_nil ?_
                intro _ hw'
                obtain ⟨y, hw''⟩ := hw'
                subst hw''
                have hy := y.h
                generalize y.w = W2 at hy ⊢
                go_wp2
                go_roundg (gk - 1)
                case measure => omega
                case rel => exact ⟨i + 1, by omega, by simp, by rw [hst.out, hR.out]; exact hA1.out.below hy, HB.out.trans (hbw1.trans (hy.mono (by omega)))⟩
          · have be : (x3 == s1) = false := by simpa using ke
            have hR : Hid (lstep (s1, s2, s3, gs) (x3, 3, x3, x4) = (s1, s2, s3, gs)) := by
              rw [Hid, hS.out, if_neg (by decide), if_neg (by simp), hBr.out, if_neg (by simp [ke])]
            clear hS hBr k1 k2 ke
            go_wp2
            have e0 : (wr.alloc (.cells #[.int .u64 x3, .int .i64 3, .int .u64 x3, .int .u64 x4] 33)).cell? ⟨wr.heap.size, 0, none⟩ = some (.int .u64 x3) := World.cell?_alloc_at _ _ _ _ rfl
            have e1 : (wr.alloc (.cells #[.int .u64 x3, .int .i64 3, .int .u64 x3, .int .u64 x4] 33)).cell? ⟨wr.heap.size, 1, none⟩ = some (.int .i64 3) := World.cell?_alloc_at _ _ _ _ rfl
            have e2 : (wr.alloc (.cells #[.int .u64 x3, .int .i64 3, .int .u64 x3, .int .u64 x4] 33)).cell? ⟨wr.heap.size, 2, none⟩ = some (.int .u64 x3) := World.cell?_alloc_at _ _ _ _ rfl
            have e3 : (wr.alloc (.cells #[.int .u64 x3, .int .i64 3, .int .u64 x3, .int .u64 x4] 33)).cell? ⟨wr.heap.size, 3, none⟩ = some (.int .u64 x4) := World.cell?_alloc_at _ _ _ _ rfl
            have hA1 : Hid (LineAt (wr.alloc (.cells #[.int .u64 x3, .int .i64 3, .int .u64 x3, .int .u64 x4] 33)) (B + 1) B (s1, s2, s3, gs)) := LineAt.same (s := (s1, s2, s3, gs)) HL.out HO.out _
            have hW1 : Below wr.heap.size wr (wr.alloc (.cells #[.int .u64 x3, .int .i64 3, .int .u64 x3, .int .u64 x4] 33)) := (Below.refl _ wr).alloc (Nat.le_refl _) _
            have hl0 := (hW1.cell (World.block_lt_of_cell? _ _ c0)).trans c0
            have hl3 := (hW1.cell (World.block_lt_of_cell? _ _ c3)).trans c3
            have hbw1 := hbw.out (.cells #[.int .u64 x3, .int .i64 3, .int .u64 x3, .int .u64 x4] 33)
            have hL1 : Hid ((wr.alloc (.cells #[.int .u64 x3, .int .i64 3, .int .u64 x3, .int .u64 x4] 33)).heap[B]? = some (.cells #[.int .u64 s1, .int .i64 s2, .bool s3, .slice ga gs.length gc] 38 (0, 0))) := (hW1.block B hBl).trans HL.out
            have hO1 : Hid (OwnG (wr.alloc (.cells #[.int .u64 x3, .int .i64 3, .int .u64 x3, .int .u64 x4] 33)) (B + 1) (.slice ga gs.length gc) gs) := own_below HO.out hW1
            have hsz1 : wr.heap.size ≤ (wr.alloc (.cells #[.int .u64 x3, .int .i64 3, .int .u64 x3, .int .u64 x4] 33)).heap.size := hW1.size
            generalize wr.alloc (.cells #[.int .u64 x3, .int .i64 3, .int .u64 x3, .int .u64 x4] 33) = W1 at *
            have l0 := fun y : Later W1 => y.cell e0
            have l1 := fun y : Later W1 => y.cell e1
            have l2 := fun y : Later W1 => y.cell e2
            have l3 := fun y : Later W1 => y.cell e3
            have l4 := fun y : Later W1 => y.cell hl0
            have l5 := fun y : Later W1 => y.cell hl3
            refine wp_region_later_lit (by kernel_rfl) (by kernel_rfl) ?_
            repeat (any_goals (first | go_big_quiet_step ((go_at_call 41; exact Calls.laterB (above_ref _ _ _ _ _))) | quiet_step ((go_at_call 41; exact Calls.laterB (above_ref _ _ _ _ _)))))
            refine wpQuiet_nil ?_
            intro _ hw'
            obtain ⟨y, hw''⟩ := hw'
            subst hw''
            have hy := y.h
            generalize y.w = W2 at hy ⊢
            go_wp2
            go_roundg (gk - 1)
            case measure => omega
            case rel => exact ⟨i + 1, by omega, by simp, by rw [hst.out, hR.out]; exact hA1.out.below hy, HB.out.trans (hbw1.trans (hy.mono (by omega)))⟩
        · have bg : (x3 == x1) = false := by simpa using kg
          have hR : Hid (lstep (s1, s2, s3, gs) (x1, 3, x3, x4) = (s1, s2, s3, gs)) := by
            rw [Hid, hS.out, if_neg (by decide), if_neg (by simp), hBr.out, if_neg (by simp [kg])]
          clear hS hBr k1 k2 kg
          go_wp2
          have e0 : (wr.alloc (.cells #[.int .u64 x1, .int .i64 3, .int .u64 x3, .int .u64 x4] 33)).cell? ⟨wr.heap.size, 0, none⟩ = some (.int .u64 x1) := World.cell?_alloc_at _ _ _ _ rfl
          have e1 : (wr.alloc (.cells #[.int .u64 x1, .int .i64 3, .int .u64 x3, .int .u64 x4] 33)).cell? ⟨wr.heap.size, 1, none⟩ = some (.int .i64 3) := World.cell?_alloc_at _ _ _ _ rfl
          have e2 : (wr.alloc (.cells #[.int .u64 x1, .int .i64 3, .int .u64 x3, .int .u64 x4] 33)).cell? ⟨wr.heap.size, 2, none⟩ = some (.int .u64 x3) := World.cell?_alloc_at _ _ _ _ rfl
          have e3 : (wr.alloc (.cells #[.int .u64 x1, .int .i64 3, .int .u64 x3, .int .u64 x4] 33)).cell? ⟨wr.heap.size, 3, none⟩ = some (.int .u64 x4) := World.cell?_alloc_at _ _ _ _ rfl
          have hA1 : Hid (LineAt (wr.alloc (.cells #[.int .u64 x1, .int .i64 3, .int .u64 x3, .int .u64 x4] 33)) (B + 1) B (s1, s2, s3, gs)) := LineAt.same (s := (s1, s2, s3, gs)) HL.out HO.out _
          have hW1 : Below wr.heap.size wr (wr.alloc (.cells #[.int .u64 x1, .int .i64 3, .int .u64 x3, .int .u64 x4] 33)) := (Below.refl _ wr).alloc (Nat.le_refl _) _
          have hl0 := (hW1.cell (World.block_lt_of_cell? _ _ c0)).trans c0
          have hl3 := (hW1.cell (World.block_lt_of_cell? _ _ c3)).trans c3
          have hbw1 := hbw.out (.cells #[.int .u64 x1, .int .i64 3, .int .u64 x3, .int .u64 x4] 33)
          have hL1 : Hid ((wr.alloc (.cells #[.int .u64 x1, .int .i64 3, .int .u64 x3, .int .u64 x4] 33)).heap[B]? = some (.cells #[.int .u64 s1, .int .i64 s2, .bool s3, .slice ga gs.length gc] 38 (0, 0))) := (hW1.block B hBl).trans HL.out
          have hO1 : Hid (OwnG (wr.alloc (.cells #[.int .u64 x1, .int .i64 3, .int .u64 x3, .int .u64 x4] 33)) (B + 1) (.slice ga gs.length gc) gs) := own_below HO.out hW1
          have hsz1 : wr.heap.size ≤ (wr.alloc (.cells #[.int .u64 x1, .int .i64 3, .int .u64 x3, .int .u64 x4] 33)).heap.size := hW1.size
          generalize wr.alloc (.cells #[.int .u64 x1, .int .i64 3, .int .u64 x3, .int .u64 x4] 33) = W1 at *
          have l0 := fun y : Later W1 => y.cell e0
          have l1 := fun y : Later W1 => y.cell e1
          have l2 := fun y : Later W1 => y.cell e2
          have l3 := fun y : Later W1 => y.cell e3
          have l4 := fun y : Later W1 => y.cell hl0
          have l5 := fun y : Later W1 => y.cell hl3
          refine wp_region_later_lit (by kernel_rfl) (by kernel_rfl) ?_
          repeat (any_goals (first | go_big_quiet_step ((go_at_call 41; exact Calls.laterB (above_ref _ _ _ _ _))) | quiet_step ((go_at_call 41; exact Calls.laterB (above_ref _ _ _ _ _)))))
          refine wpQuiet_nil ?_
          intro _ hw'
          obtain ⟨y, hw''⟩ := hw'
          subst hw''
          have hy := y.h
          generalize y.w = W2 at hy ⊢
          go_wp2
          go_roundg (gk - 1)
          case measure => omega
          case rel => exact ⟨i + 1, by omega, by simp, by rw [hst.out, hR.out]; exact hA1.out.below hy, HB.out.trans (hbw1.trans (hy.mono (by omega)))⟩
      · have b3 : (x2 == 3) = false := by simpa using k3
        have hR : Hid (lstep (s1, s2, s3, gs) (x1, x2, x3, x4) = (s1, s2, s3, gs)) := by
          rw [Hid, hS.out, if_neg k1, if_neg (by simp [k2]), hBr.out, if_neg (by simp [k3])]
        clear hS hBr k1 k2 k3
        go_wp2
        go_roundg (gk - 1)
        case measure => omega
        case rel => exact ⟨i + 1, by omega, by simp, by rw [hst.out, hR.out]; exact LineAt.same (s := (s1, s2, s3, gs)) HL.out HO.out _, HB.out.trans (hbw.out _)⟩
    · obtain rfl : c = i := by omega
      have hno := fun h => hlt ((hci.out c).2 h)
      obtain ⟨v, hLv, hOv⟩ := HLn.out
      unfold LineIs at hLv
      have hRv := (HB.out.block w.heap.size (by have := HBd.out; omega)).trans hR0.out
      obtain ⟨ga, gc, rfl, -⟩ := own_gids hOv
      generalize hs : foldL (es.take c) = s at *
      obtain ⟨s1, s2, s3, gs⟩ := s
      simp only at hLv hOv
      have c0 := cell_of_block hLv 0
      have c1 := cell_of_block hLv 1
      have c2 := cell_of_block hLv 2
      have c3 := cell_of_block hLv 3
      have r0 := cell_of_block hRv 0
      have r1 := cell_of_block hRv 1
      have r2 := cell_of_block hRv 2
      have r3 := cell_of_block hRv 3
      simp only [List.getElem?_toArray, List.getElem?_cons_zero, List.getElem?_cons_succ] at c0 c1 c2 c3 r0 r1 r2 r3
      have f0 := unfrozen_of_block hRv 0
      have f1 := unfrozen_of_block hRv 1
      have f2 := unfrozen_of_block hRv 2
      have f3 := unfrozen_of_block hRv 3
      have HLv := Lib.hid hLv
      have HOv := Lib.hid hOv
      have HRv := Lib.hid hRv
      clear hLv hOv hRv hs
      have hRw := line_cells HRv.out (.int .u64 s1) (.int .i64 s2) (.bool s3) (.slice ga gs.length gc)
      have hOw := (((OwnG.set HOv.out HRv.out 0 (.int .u64 s1)).set (block_setCell HRv.out _) 1 (.int .i64 s2)).set (block_setCell (block_setCell HRv.out _) _) 2 (.bool s3)).set (block_setCell (block_setCell (block_setCell HRv.out _) _) _) 3 (.slice ga gs.length gc)
      have hBn := (((hBw.out.setCell (p := ⟨w.heap.size, 0, none⟩) (Nat.le_refl _) (.int .u64 s1)).setCell (p := ⟨w.heap.size, 1, none⟩) (Nat.le_refl _) (.int .i64 s2)).setCell (p := ⟨w.heap.size, 2, none⟩) (Nat.le_refl _) (.bool s3)).setCell (p := ⟨w.heap.size, 3, none⟩) (Nat.le_refl _) (.slice ga gs.length gc)
      have HRw := Lib.hid hRw
      have HOw := Lib.hid hOw
      have HBn := Lib.hid hBn
      clear hRw hOw hBn
      by_cases h1 : c < es.length
      · have h2 : commit ≤ (c : Int) := by
          by_cases hh : (c : Int) < commit
          · exact absurd ⟨h1, hh⟩ hno
          · omega
        clear hno hlt
        go_wp2
        refine bodyPost_ret (res22 _ _ _ _ _ _ _ rfl HRw.out) rfl ?_
        exact ⟨_, rfl, HOw.out.mono (by have := HBd.out; omega), HBn.out⟩
      · clear hno hlt
        go_wp2
        refine bodyPost_ret (res22 _ _ _ _ _ _ _ rfl HRw.out) rfl ?_
        exact ⟨_, rfl, HOw.out.mono (by have := HBd.out; omega), HBn.out⟩
end Go.Proofs.Ythfchmdfoaiibaa
