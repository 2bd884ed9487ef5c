/- A net takes so many frames, and no more. -/
import Derived.Test.YtmiaifbpepfbnaaBoth
import Derived.Laws.BytesString
namespace Go.Proofs.Ytmiaifbpepfbnaa
open Go.RowKit Go.Joins Go.ChangeMaps

theorem be_new {w W1 : World} {p bm : Nat} {n : Int} (h : PN W1 w.heap.size p bm (.slice none 0 0) (newS n)) (hb : Below w.heap.size w W1) :
    BE w (W1.alloc (.cells #[.int .i64 n, .slice none 0 0, .slice none 0 0, .int .i64 0, .int .i64 0] 28)) (fun _ => False) p bm W1.heap.size (newS n) (newS n) :=
  ⟨_, .slice none 0 0, .slice none 0 0, grew_trans hb (bel1 _ _), h.below (bel1 _ _), ⟨heap_alloc_new W1 _, hb.size, ownL_nil _ _, ownL_nil _ _⟩, by simp [Value.ownBlock], fun _ h => h.elim⟩
def str2 (x y : Int) : ByteArray := [x, y].foldl (fun r n => r.push (UInt8.ofNat n.toNat)) ByteArray.empty
theorem conv2 (w : World) (x y : Int) : (convert 29 9 (.slice (some ⟨w.heap.size, 0, none⟩) 2 2)).run Try.prog (w.alloc (.cells #[.int .u8 x, .int .u8 y] 5)) = .ok (.string (str2 x y)) (w.alloc (.cells #[.int .u8 x, .int .u8 y] 5)) := by
  rw [run_convert_bytes_string _ 29 9 5 _ 2 2 Try.underlying29 Try.underlying5 Try.underlying9]
  refine run_bytesToString _ _ 2 2 [x, y] (run_loadCells_list _ _ [.int .u8 x, .int .u8 y] fun j v hv => ?_)
  rw [Go.WideShapes.add_plain, Nat.zero_add]
  exact cellN w _ 5 _ j v rfl (by simpa using hv)
theorem sli_blk {α : Type} [Inhabited α] {enc : α → List Value} {sz : Nat} (E : Enc enc sz) {w : World} {b : Nat} {t : TypeId} {xs : List α} {n : Nat} (h : w.heap[b]? = some (.cells (flatOf enc xs).toArray t (0, 0))) (hn : xs.length = n) (hm : n ≤ maxLen) : Sli enc sz w (some ⟨b, 0, none⟩) n xs := by
  subst hn
  refine ⟨fun i hi => ⟨b, 0, rfl, fun j u hu => ?_⟩, by simp, Nat.le_refl _, hm, fun ad e => by simp at e; exact ⟨_, _, e.symm⟩⟩
  have hj : j < sz := by rw [← E.len (xs.getD i default)]; exact (List.getElem?_eq_some_iff.1 hu).1
  have := flatOf_get E xs i j hj hi
  rw [hu] at this
  rw [Nat.zero_add]
  exact (cell_of h _ (by simpa using this)).1
set_option maxHeartbeats 4000000 in
set_option maxRecDepth 100000 in
theorem lawMany (send twice : Int) (w : World) : Calls Try.prog 3 #[.int .i64 send, .int .i64 twice] w (RetB true w) := by
  go_enter Try.func3, Try.ntmps3
  go_wp2_with (go_at_call 8; refine (new_any 2 _ (by omega) (by omega)).mono ?_; rintro e w1 ⟨rfl, hP1, hB1⟩; have B := Lib.hid (be_new hP1 hB1); clear hP1 hB1)
  generalize w1.alloc (.cells #[.int .i64 2, .slice none 0 0, .slice none 0 0, .int .i64 0, .int .i64 0] 28) = W at *
  generalize w1.heap.size = q at *
  generalize hp : w.heap.size + 1 = p at *
  go_loopg [7, 8] 450 (fun gk v7 v8 wr => ∃ i : Nat, i + gk = 450 ∧ v7 = .int .i64 (i : Int) ∧ ∃ s, BE w wr (fun _ => False) p w.heap.size q s s ∧ Good s ∧ s.fr ≤ (i : Int))
  case atStart => exact ⟨0, rfl, rfl, newS 2, B.out, good_new (by omega) (by omega), by simp [newS]⟩
  case round =>
    obtain ⟨i, hik, rfl, s, hB, hg, hfr⟩ := hrel
    have HB := Lib.hid hB
    have HG := Lib.hid hg
    have HF := Lib.hid hfr
    clear hB hg hfr B
    by_cases hlt : (i : Int) < send
    · by_cases h450 : (i : Int) < 450
      · have hcv := fun W x y => conv2 W x y
        generalize hst : str2 ((i : Int) % 256) ((i : Int) / 256) = st at *
        have hcv' : ∀ W : World, (convert 29 9 (.slice (some ⟨W.heap.size, 0, none⟩) 2 2)).run Try.prog (W.alloc (.cells #[.int .u8 ((i : Int) % 256), .int .u8 ((i : Int) / 256)] 5)) = .ok (.string st) (W.alloc (.cells #[.int .u8 ((i : Int) % 256), .int .u8 ((i : Int) / 256)] 5)) := fun W => by rw [← hst]; exact conv2 W _ _
        clear hcv hst
        have hL : Hid (((wr.alloc (.cells #[.int .u8 ((i : Int) % 256), .int .u8 ((i : Int) / 256)] 5)).alloc (.cells #[.int .i64 ((i : Int) % 2), .int .i64 (1 - (i : Int) % 2), .string st] 31)).heap[wr.heap.size + 1]? = some (.cells #[.int .i64 ((i : Int) % 2), .int .i64 (1 - (i : Int) % 2), .string st] 31)) := by
          have := heap_alloc_new (wr.alloc (.cells #[.int .u8 ((i : Int) % 256), .int .u8 ((i : Int) / 256)] 5)) (.cells #[.int .i64 ((i : Int) % 2), .int .i64 (1 - (i : Int) % 2), .string st] 31)
          rw [show (wr.alloc (.cells #[.int .u8 ((i : Int) % 256), .int .u8 ((i : Int) / 256)] 5)).heap.size = wr.heap.size + 1 by simp] at this
          exact this
        have hBb := Lib.hid (grew_trans (bel1 wr (.cells #[.int .u8 ((i : Int) % 256), .int .u8 ((i : Int) / 256)] 5)) (bel1 _ (.cells #[.int .i64 ((i : Int) % 2), .int .i64 (1 - (i : Int) % 2), .string st] 31)))
        go_wp2_with fail
        generalize (wr.alloc (.cells #[.int .u8 ((i : Int) % 256), .int .u8 ((i : Int) / 256)] 5)).alloc (.cells #[.int .i64 ((i : Int) % 2), .int .i64 (1 - (i : Int) % 2), .string st] 31) = X at *
        have hb2 := Lib.hid (HB.out.more hBb.out)
        have hS2 := Lib.hid (sli_blk EF (xs := [((i : Int) % 2, 1 - (i : Int) % 2, st)]) (n := 1) hL.out rfl (by unfold maxLen; omega))
        have hnb := Lib.hid (blk_lt hL.out)
        have N1 := trivial
        go_wp2_with (first
          | (have z := N1; go_at_call 9; refine (b_send (n := 1) hb2.out HG.out hS2.out rfl (by have := HF.out; omega) (by intro b off e; simp at e; have := hnb.out; right; omega)).mono ?_; rintro e w3 ⟨rfl, hBs, hFs, -⟩; have hL3 := Lib.hid (hFs _ _ (by have := hnb.out; right; omega) hL.out); have hb3 := Lib.hid hBs; clear hBs hFs z N1; have N2 := trivial)
          | (have z := N2; go_at_call 10; refine (b_rsend (n := 1) hb3.out HG.out (sli_blk EF (xs := [((i : Int) % 2, 1 - (i : Int) % 2, st)]) (n := 1) hL3.out rfl (by unfold maxLen; omega)) rfl (by have := HF.out; omega) (by intro b off e; simp at e; have := hnb.out; right; omega)).mono ?_; rintro e w4 ⟨rfl, hBs, hFs, -⟩; have hb4 := Lib.hid (hBs.less (F' := fun _ => False) (fun _ c => c.elim)); clear hBs hFs z N2))
        go_roundg (gk - 1)
        case measure => omega
        case rel =>
          obtain ⟨k1, k2, -, -⟩ := good_send [((i : Int) % 2, 1 - (i : Int) % 2, st)] HG.out
          have := HF.out
          simp at k2
          exact ⟨i + 1, by omega, by simp, _, hb4.out, k1, by omega⟩
      · have h450' : (450 : Int) ≤ (i : Int) := by omega
        clear h450
        go_wp2
        go_loopg [9] 500 (fun gk2 v9 wr2 => ∃ j : Nat, j + gk2 = 500 ∧ v9 = .int .i64 (j : Int) ∧ ∃ s2, BE w wr2 (fun _ => False) p w.heap.size q s2 s2 ∧ Good s2)
        case atStart => exact ⟨0, rfl, rfl, s, HB.out, HG.out⟩
        case round =>
          obtain ⟨j, hjk, rfl, s2, hB2, hg2⟩ := hrel
          have HB2 := Lib.hid hB2
          have HG2 := Lib.hid hg2
          clear hB2 hg2 HB HG HF
          by_cases hlt2 : (j : Int) < twice
          · by_cases h500 : (j : Int) < 500
            · have hne : ((twiceS s2 ((j : Int) % 3)).2 != (twiceS s2 ((j : Int) % 3)).2) = false := by simp
              have hgt := Lib.hid (good_twice HG2.out ((j : Int) % 3))
              have h1 := Lib.hid (fun (V : World) (h : BE w V (fun _ => False) p w.heap.size q s2 s2) => b_twice (k := (j : Int) % 3) h)
              have h2 := Lib.hid (fun (V : World) (h : BE w V (fun _ => False) p w.heap.size q (twiceS s2 ((j : Int) % 3)).1 s2) => b_rtwice (k := (j : Int) % 3) h)
              generalize (twiceS s2 ((j : Int) % 3)).2 = tb at *
              generalize (twiceS s2 ((j : Int) % 3)).1 = s3 at *
              go_wp2_with (first
                | (go_at_call 11; refine (h1.out _ HB2.out).mono ?_; rintro e w3 ⟨rfl, hBs, -, -⟩; have hb3 := Lib.hid hBs; clear hBs)
                | (go_at_call 12; refine (h2.out _ hb3.out).mono ?_; rintro e w4 ⟨rfl, hBs, -, -⟩; have hb4 := Lib.hid hBs; clear hBs))
              go_roundg (gk - 1)
              case measure => omega
              case rel => exact ⟨j + 1, by omega, by simp, s3, hb4.out, hgt.out⟩
            · have h500' : (500 : Int) ≤ (j : Int) := by omega
              clear h500
              have heq : ((s2.fl.length : Int) == (s2.fl.length : Int)) = true := by simp
              obtain ⟨ra, rcap, r1, -, -⟩ := b_ref HB2.out
              have l0 := fun y : Later wr => y.cell r1
              have hlen := Lib.hid (fun y : Later wr => b_len (HB2.out.below y.h))
              go_wp2_with fail
              refine wp_region_later_lit (by kernel_rfl) (by kernel_rfl) ?_
              repeat (any_goals (first | go_big_quiet_step (first | (go_at_call 14; exact Calls.laterB (works_any _)) | (go_at_call 13; exact laterSI (hlen.out _))) | quiet_step (first | (go_at_call 14; exact Calls.laterB (works_any _)) | (go_at_call 13; exact laterSI (hlen.out _)))))
              refine wpQuiet_nil ?_
              intro _ hw'
              obtain ⟨y, hw''⟩ := hw'
              subst hw''
              have hy := Lib.hid y.h
              clear l0 hlen
              generalize y.w = Y at *
              go_wp2
              go_ret
              exact retB rfl (grew_trans HB2.out.bel hy.out)
          · have hlt2' : twice ≤ (j : Int) := by omega
            clear hlt2
            have heq : ((s2.fl.length : Int) == (s2.fl.length : Int)) = true := by simp
            obtain ⟨ra, rcap, r1, -, -⟩ := b_ref HB2.out
            have l0 := fun y : Later wr => y.cell r1
            have hlen := Lib.hid (fun y : Later wr => b_len (HB2.out.below y.h))
            go_wp2_with fail
            refine wp_region_later_lit (by kernel_rfl) (by kernel_rfl) ?_
            repeat (any_goals (first | go_big_quiet_step (first | (go_at_call 14; exact Calls.laterB (works_any _)) | (go_at_call 13; exact laterSI (hlen.out _))) | quiet_step (first | (go_at_call 14; exact Calls.laterB (works_any _)) | (go_at_call 13; exact laterSI (hlen.out _)))))
            refine wpQuiet_nil ?_
            intro _ hw'
            obtain ⟨y, hw''⟩ := hw'
            subst hw''
            have hy := Lib.hid y.h
            clear l0 hlen
            generalize y.w = Y at *
            go_wp2
            go_ret
            exact retB rfl (grew_trans HB2.out.bel hy.out)
    · have hlt' : send ≤ (i : Int) := by omega
      clear hlt
      go_wp2
      go_loopg [9] 500 (fun gk2 v9 wr2 => ∃ j : Nat, j + gk2 = 500 ∧ v9 = .int .i64 (j : Int) ∧ ∃ s2, BE w wr2 (fun _ => False) p w.heap.size q s2 s2 ∧ Good s2)
      case atStart => exact ⟨0, rfl, rfl, s, HB.out, HG.out⟩
      case round =>
        obtain ⟨j, hjk, rfl, s2, hB2, hg2⟩ := hrel
        have HB2 := Lib.hid hB2
        have HG2 := Lib.hid hg2
        clear hB2 hg2 HB HG HF
        by_cases hlt2 : (j : Int) < twice
        · by_cases h500 : (j : Int) < 500
          · have hne : ((twiceS s2 ((j : Int) % 3)).2 != (twiceS s2 ((j : Int) % 3)).2) = false := by simp
            have hgt := Lib.hid (good_twice HG2.out ((j : Int) % 3))
            have h1 := Lib.hid (fun (V : World) (h : BE w V (fun _ => False) p w.heap.size q s2 s2) => b_twice (k := (j : Int) % 3) h)
            have h2 := Lib.hid (fun (V : World) (h : BE w V (fun _ => False) p w.heap.size q (twiceS s2 ((j : Int) % 3)).1 s2) => b_rtwice (k := (j : Int) % 3) h)
            generalize (twiceS s2 ((j : Int) % 3)).2 = tb at *
            generalize (twiceS s2 ((j : Int) % 3)).1 = s3 at *
            go_wp2_with (first
              | (go_at_call 11; refine (h1.out _ HB2.out).mono ?_; rintro e w3 ⟨rfl, hBs, -, -⟩; have hb3 := Lib.hid hBs; clear hBs)
              | (go_at_call 12; refine (h2.out _ hb3.out).mono ?_; rintro e w4 ⟨rfl, hBs, -, -⟩; have hb4 := Lib.hid hBs; clear hBs))
            go_roundg (gk - 1)
            case measure => omega
            case rel => exact ⟨j + 1, by omega, by simp, s3, hb4.out, hgt.out⟩
          · have h500' : (500 : Int) ≤ (j : Int) := by omega
            clear h500
            have heq : ((s2.fl.length : Int) == (s2.fl.length : Int)) = true := by simp
            obtain ⟨ra, rcap, r1, -, -⟩ := b_ref HB2.out
            have l0 := fun y : Later wr => y.cell r1
            have hlen := Lib.hid (fun y : Later wr => b_len (HB2.out.below y.h))
            go_wp2_with fail
            refine wp_region_later_lit (by kernel_rfl) (by kernel_rfl) ?_
            repeat (any_goals (first | go_big_quiet_step (first | (go_at_call 14; exact Calls.laterB (works_any _)) | (go_at_call 13; exact laterSI (hlen.out _))) | quiet_step (first | (go_at_call 14; exact Calls.laterB (works_any _)) | (go_at_call 13; exact laterSI (hlen.out _)))))
            refine wpQuiet_nil ?_
            intro _ hw'
            obtain ⟨y, hw''⟩ := hw'
            subst hw''
            have hy := Lib.hid y.h
            clear l0 hlen
            generalize y.w = Y at *
            go_wp2
            go_ret
            exact retB rfl (grew_trans HB2.out.bel hy.out)
        · have hlt2' : twice ≤ (j : Int) := by omega
          clear hlt2
          have heq : ((s2.fl.length : Int) == (s2.fl.length : Int)) = true := by simp
          obtain ⟨ra, rcap, r1, -, -⟩ := b_ref HB2.out
          have l0 := fun y : Later wr => y.cell r1
          have hlen := Lib.hid (fun y : Later wr => b_len (HB2.out.below y.h))
          go_wp2_with fail
          refine wp_region_later_lit (by kernel_rfl) (by kernel_rfl) ?_
          repeat (any_goals (first | go_big_quiet_step (first | (go_at_call 14; exact Calls.laterB (works_any _)) | (go_at_call 13; exact laterSI (hlen.out _))) | quiet_step (first | (go_at_call 14; exact Calls.laterB (works_any _)) | (go_at_call 13; exact laterSI (hlen.out _)))))
          refine wpQuiet_nil ?_
          intro _ hw'
          obtain ⟨y, hw''⟩ := hw'
          subst hw''
          have hy := Lib.hid y.h
          clear l0 hlen
          generalize y.w = Y at *
          go_wp2
          go_ret
          exact retB rfl (grew_trans HB2.out.bel hy.out)
end Go.Proofs.Ytmiaifbpepfbnaa
