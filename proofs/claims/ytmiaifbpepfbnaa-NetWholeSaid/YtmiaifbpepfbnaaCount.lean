/- How often a frame is on a list. -/
import Derived.Test.YtmiaifbpepfbnaaOne
namespace Go.Proofs.Ytmiaifbpepfbnaa
open Go.RowKit Go.Joins Go.ChangeMaps

def cnt (l : List Fr) (f : Fr) : Nat := (l.filter (fun x => eqF x f)).length
theorem cnt_snoc (l : List Fr) (i : Nat) (h : i < l.length) (f : Fr) : cnt (l.take (i + 1)) f = cnt (l.take i) f + if eqF (l.getD i default) f = true then 1 else 0 := by
  rw [take_snoc l i default h, cnt, List.filter_append, List.length_append]
  unfold cnt
  by_cases he : eqF (l.getD i default) f = true
  · rw [if_pos he]; simp only [List.filter_cons, he, if_true, List.filter_nil, List.length_singleton]
  · rw [if_neg he]
    have he' : eqF (l.getD i default) f = false := by simpa using he
    simp only [List.filter_cons, he', Bool.false_eq_true, if_false, List.filter_nil, List.length_nil]
theorem cnt_le (l : List Fr) (f : Fr) : cnt l f ≤ l.length := List.length_filter_le _ _
theorem cnt_append (l m : List Fr) (f : Fr) : cnt (l ++ m) f = cnt l f + cnt m f := by simp [cnt]
set_option maxHeartbeats 4000000 in
set_option maxRecDepth 100000 in
theorem times_any (a : Option Addr) (c n : Nat) (l : List Fr) (f : Fr) (hn : l.length = n) (w : World) (hl : Lst encF 3 w a l) (hm : n ≤ 1000000) : Calls Try.prog 33 #[.slice a n c, frV f] w (RetI (cnt l f : Int) w) := by
  obtain ⟨y0, y1, y2⟩ := f
  have hL := Lib.hid hl
  have hB0 := Lib.hid (bel1 w (.cells #[.int .i64 y0, .int .i64 y1, .string y2] 31))
  have hbox := Lib.hid (heap_alloc_new w (.cells #[.int .i64 y0, .int .i64 y1, .string y2] 31))
  have hN := Lib.hid hn
  have hM := Lib.hid hm
  have hmi : (n : Int) ≤ 1000000 := by omega
  simp only [frV]
  clear hl hn hm
  go_enter Try.func33, Try.ntmps33
  go_wp2
  generalize w.alloc (.cells #[.int .i64 y0, .int .i64 y1, .string y2] 31) = X at *
  generalize w.heap.size = nb at hbox ⊢
  go_loopg [5, 6] n (fun gk v5 v6 wr => ∃ i : Nat, i + gk = n ∧ v6 = .int .i64 (i : Int) ∧ v5 = .int .i64 ((cnt (l.take i) (y0, y1, y2) : Nat) : Int) ∧ Below X.heap.size X wr)
  case atStart => exact ⟨0, by omega, rfl, by simp [cnt], Below.refl _ _⟩
  case round =>
    obtain ⟨i, hik, rfl, rfl, hB⟩ := hrel
    have HB := Lib.hid hB
    by_cases hlt : i < n
    · have hli : (i : Int) < (n : Int) := by omega
      have hsn := Lib.hid (cnt_snoc l i (by have := hN.out; omega) (y0, y1, y2))
      obtain ⟨b, off, hab, hc⟩ := hL.out i (by have := hN.out; omega)
      subst hab
      obtain ⟨g0', g1', g2'⟩ := fr_cells hc
      have g0 := keepc' (keepc' g0' hB0.out) HB.out
      have g1 := keepc' (keepc' g1' hB0.out) HB.out
      have g2 := keepc' (keepc' g2' hB0.out) HB.out
      have hbx := blk_below hbox.out HB.out
      have k0 := (cell_of hbx 0 (v := .int .i64 y0) rfl).1
      have k1 := (cell_of hbx 1 (v := .int .i64 y1) rfl).1
      have k2 := (cell_of hbx 2 (v := .string y2) rfl).1
      have hcl : ((cnt (l.take i) (y0, y1, y2) : Nat) : Int) ≤ 1000000 := by have := cnt_le (l.take i) (y0, y1, y2); have := hM.out; simp at *; omega
      generalize l.getD i default = x at *
      obtain ⟨x0, x1, x2⟩ := x
      have mixed : Try.prog.follows .mixedOrders = true := by kernel_rfl
      clear g0' g1' g2' hc hB hbx
      generalize cnt (l.take i) (y0, y1, y2) = k at *
      cases he : eqF (x0, x1, x2) (y0, y1, y2)
      · have hq : ∀ V, (binOp .eql 31 (.agg #[.int .i64 x0, .int .i64 x1, .string x2]) (.agg #[.int .i64 y0, .int .i64 y1, .string y2])).run Try.prog V = .ok (.bool false) V := fun V => (eql31 V x0 x1 y0 y1 x2 y2).trans (by rw [he])
        rw [he] at hsn
        clear he
        go_wp2_with fail
        go_region
        all_goals (
          go_wp2
          go_roundg (gk - 1)
          case measure => omega
          case rel => exact ⟨i + 1, by omega, by simp, by rw [hsn.out]; simp, HB.out.drew⟩)
      · have hq : ∀ V, (binOp .eql 31 (.agg #[.int .i64 x0, .int .i64 x1, .string x2]) (.agg #[.int .i64 y0, .int .i64 y1, .string y2])).run Try.prog V = .ok (.bool true) V := fun V => (eql31 V x0 x1 y0 y1 x2 y2).trans (by rw [he])
        rw [he] at hsn
        clear he
        go_wp2_with fail
        go_region
        all_goals (
          go_wp2
          go_roundg (gk - 1)
          case measure => omega
          case rel => exact ⟨i + 1, by omega, by simp, by rw [hsn.out]; simp, HB.out.drew⟩)
    · obtain rfl : i = n := by omega
      have hf := Lib.hid (show l.take i = l by rw [List.take_of_length_le (by have := hN.out; omega)])
      rw [hf.out]
      clear hB hlt
      go_wp2
      go_ret
      exact retI rfl (grew_trans hB0.out HB.out)
set_option maxHeartbeats 4000000 in
set_option maxRecDepth 100000 in
theorem counted_any (a a2 : Option Addr) (c c2 n n2 : Nat) (l l2 : List Fr) (hn : l.length = n) (hn2 : l2.length = n2) (w : World) (hl : Lst encF 3 w a l) (hl2 : Lst encF 3 w a2 l2) (hm : n ≤ 1000000) (hm2 : n2 ≤ 1000000) (hc : ∀ f, cnt l f ≤ cnt l2 f) :
    Calls Try.prog 20 #[.slice a n c, .slice a2 n2 c2] w (RetB true w) := by
  have hL := Lib.hid hl
  have hL2 := Lib.hid hl2
  have hN := Lib.hid hn
  have hN2 := Lib.hid hn2
  have hM := Lib.hid hm
  have hM2 := Lib.hid hm2
  have hC := Lib.hid hc
  have hmi : (n : Int) ≤ 1000000 := by omega
  clear hl hl2 hn hn2 hm hm2 hc
  go_enter Try.func20, Try.ntmps20
  go_wp2
  go_loopg [6] n (fun gk v6 wr => ∃ i : Nat, i + gk = n ∧ v6 = .int .i64 (i : Int) ∧ Below w.heap.size w wr)
  case atStart => exact ⟨0, by omega, rfl, Below.refl _ _⟩
  case round =>
    obtain ⟨i, hik, rfl, hB⟩ := hrel
    have HB := Lib.hid hB
    clear hB
    by_cases hlt : i < n
    · have hli : (i : Int) < (n : Int) := by omega
      by_cases h3 : (i : Int) < 300
      · obtain ⟨b, off, hab, hc⟩ := hL.out i (by have := hN.out; omega)
        subst hab
        obtain ⟨g0', g1', g2'⟩ := fr_cells hc
        have z0 := fun y : Later wr => y.cell (keepc' g0' HB.out)
        have z1 := fun y : Later wr => y.cell (keepc' g1' HB.out)
        have z2 := fun y : Later wr => y.cell (keepc' g2' HB.out)
        generalize l.getD i default = x at *
        obtain ⟨x0, x1, x2⟩ := x
        have h1' := (fun y : Later wr => times_any (some ⟨b, off, none⟩) c n l (x0, x1, x2) hN.out y.w (hL.out.below (grew_trans HB.out y.h)) hM.out)
        have h2' := (fun y : Later wr => times_any a2 c2 n2 l2 (x0, x1, x2) hN2.out y.w (hL2.out.below (grew_trans HB.out y.h)) hM2.out)
        simp only [frV] at h1' h2'
        have h1 := Lib.hid h1'
        have h2 := Lib.hid h2'
        clear h1' h2'
        have hle : ((cnt l (x0, x1, x2) : Nat) : Int) ≤ ((cnt l2 (x0, x1, x2) : Nat) : Int) := by have := hC.out (x0, x1, x2); omega
        generalize cnt l (x0, x1, x2) = k1 at *
        generalize cnt l2 (x0, x1, x2) = k2 at *
        clear g0' g1' g2' hc
        have T1 := trivial
        go_wp2_with fail
        refine wp_region_later_lit (by kernel_rfl) (by kernel_rfl) ?_
        repeat (any_goals (first | go_big_quiet_step (first | (go_at_call 33; with_reducible exact Calls.laterI (h1.out _)) | (go_at_call 33; with_reducible exact Calls.laterI (h2.out _))) | quiet_step (first | (go_at_call 33; with_reducible exact Calls.laterI (h1.out _)) | (go_at_call 33; with_reducible exact Calls.laterI (h2.out _)))))
        refine wpQuiet_nil ?_
        intro _ hw'
        obtain ⟨y, hw''⟩ := hw'
        subst hw''
        have hy := Lib.hid y.h
        clear z0 z1 z2 h1 h2
        generalize y.w = Y at *
        go_wp2
        go_roundg (gk - 1)
        case measure => omega
        case rel => exact ⟨i + 1, by omega, by simp, grew_trans HB.out hy.out⟩
      · have h3' : (300 : Int) ≤ (i : Int) := by omega
        clear h3
        go_wp2
        go_ret
        exact retB rfl HB.out
    · have hge : (n : Int) ≤ (i : Int) := by omega
      clear hlt
      go_wp2
      go_ret
      exact retB rfl HB.out
end Go.Proofs.Ytmiaifbpepfbnaa
