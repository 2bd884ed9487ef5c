/- What a write that is not flushed made of its sector. -/
import Derived.Test.YtcgkdomfbkkboaaNew
import Derived.Laws.Slices
namespace Go.Proofs.Ytcgkdomfbkkboaa
open Go.RowKit Go.Joins Go.ChangeMaps

theorem size70 (w : World) : (Go.sizeOf 70).run Try.prog w = .ok 3 w := by kernel_rfl
theorem tail_bf {w : World} {a : Option Addr} {cap : Nat} {es : List Bf} (h : Sli encB 3 w a cap es) (p : Nat) (hp : p ≤ es.length) :
    ∃ A C, (∀ W, (Instr.slice 59 (.slice a es.length cap) (some (.int .i64 (p : Int))) none none).run Try.prog W = .ok (.slice A (es.length - p) C) W) ∧ Lst encB 3 w A (es.drop p) := by
  have ht' : Try.prog.underlying 59 = some (.slice (Try.prog.elem 59)) := by kernel_rfl
  have he : Try.prog.elem 59 = 70 := by kernel_rfl
  have hlen := h.len
  have hcm := h.capm
  by_cases hc : cap = p
  · have h0 : es.drop p = [] := List.eq_nil_of_length_eq_zero (by simp; omega)
    refine ⟨a, 0, fun W => ?_, ?_⟩
    · rw [run_slice_l W 59 _ _ _ ht' .i64 _ (by omega) (by omega), he, size70]
      simp only [Result.andThen, sliced, Int.toNat_natCast]
      subst hc
      cases a <;> simp
    · rw [h0]
      exact fun i hi => by simp at hi
  · cases a with
    | none => have := h.nil0 rfl; omega
    | some ad =>
      obtain ⟨b, off, rfl⟩ := h.plain ad rfl
      refine ⟨some ⟨b, off + p * 3, none⟩, cap - p, fun W => ?_, h.lst.drop p⟩
      rw [run_slice_l W 59 _ _ _ ht' .i64 _ (by omega) (by omega), he, size70]
      simp only [Result.andThen, sliced, Int.toNat_natCast]
      simp [hc, Addr.add]
      try (intro h0; subst h0; simp)
theorem bf_cells {w : World} {b o : Nat} {f : Bf} (h : CellsAt w b o (encB f)) : w.cell? ⟨b, o, none⟩ = some (.int .i64 f.1) ∧ w.cell? ⟨b, o + 1, none⟩ = some (.string f.2.1) ∧ w.cell? ⟨b, o + 2, none⟩ = some (.bool f.2.2) :=
  ⟨h 0 _ rfl, h 1 _ rfl, h 2 _ rfl⟩
/-- behind writes to other places. -/
theorem apply_skip (f : Fn) (ws : List Wr) {k : Nat} {a : Int} (h : k < ws.length) (hne : (ws.getD k default).1 ≠ a) : apply f (ws.take (k + 1)) a = apply f (ws.take k) a := by
  rw [take_snoc ws k default h, apply_snoc, upd_other (Ne.symm hne)]
theorem apply_self (f : Fn) (ws : List Wr) {k : Nat} (h : k < ws.length) : apply f (ws.take (k + 1)) (ws.getD k default).1 = some (ws.getD k default).2 := by
  rw [take_snoc ws k default h, apply_snoc, upd_same]
set_option maxHeartbeats 2000000 in
set_option maxRecDepth 100000 in
theorem written_any {w : World} {base p bm : Nat} {v : Value} {s : St} (n : Nat) (h : PD w base p bm v s) (hg : Good s) (hn : n < s.more.length) (hl : s.more.length ≤ 1000000) : Calls Try.prog 37 #[.pointer (some ⟨p, 0, none⟩), .int .i64 (n : Int)] w (RetV (.string (s.more.getD n default).2) w) := by
  have hP := Lib.hid h
  obtain ⟨⟨g0, g1, -, -, -, -⟩, -⟩ := h.cells
  obtain ⟨a, cap, hv, hsl, -⟩ := h.own.sli EB
  have hul : s.undo.length = s.more.length := undoOf_length _ _
  obtain ⟨A, C, hsr, hT⟩ := tail_bf hsl (n + 1) (by omega)
  obtain ⟨m, hm⟩ : ∃ m, m = s.more.length - (n + 1) := ⟨_, rfl⟩
  have HT := Lib.hid hT
  obtain ⟨bb, oo, hab, hcc⟩ := hsl.lst n (by omega)
  obtain ⟨d0, -, -⟩ := bf_cells hcc
  have hud := undoOf_getD s.base s.more n hn
  rw [show s.undo.getD n default = _ from hud] at d0
  have hinv := Lib.hid (apply_self s.base s.more hn)
  have hrest := Lib.hid (fun k (hk : k < s.more.length) => undoOf_getD s.base s.more k hk)
  have hskip := Lib.hid (fun k (hk : k < s.more.length) => apply_skip s.base s.more (k := k) (a := (s.more.getD n default).1) hk)
  have hwf := hg.more (s.more.getD n default) (by rw [List.getD_eq_getElem?_getD, List.getElem?_eq_getElem hn]; exact List.getElem_mem hn)
  have hlen := hg.len
  have HP2 := Lib.hid (fun W (hW : Below w.heap.size w W) => (h.below hW).map.look (i := (s.more.getD n default).1) (wf64 (by omega) (by omega)))
  generalize s.more.getD n default = x at *
  obtain ⟨x1, x2⟩ := x
  simp only at d0
  have hnc : ((n : Int) + 1) = ((n + 1 : Nat) : Int) := by omega
  rw [hv, hul] at g1
  rw [hul] at hsr
  rw [← hm] at hsr
  have HM := Lib.hid hm
  have HN := Lib.hid hn
  have HU := Lib.hid hul
  rw [← hnc] at hsr
  clear hT hcc hud hsl hnc h hg hm hul hwf hlen
  subst hab
  generalize hml : s.more.length = ml at *
  have HML := Lib.hid hml
  clear hml
  go_enter Try.func37, Try.ntmps37
  go_wp2
  go_loopg [6, 15] m (fun gk _ v15 wr => ∃ j : Nat, j + gk = m ∧ v15 = .int .i64 (j : Int) ∧ Below w.heap.size w wr ∧ apply s.base (s.more.take (n + 1 + j)) x1 = some x2)
  case atStart => exact ⟨0, by omega, rfl, Below.refl _ _, hinv.out⟩
  case round =>
    obtain ⟨j, hjm, rfl, hb, hap⟩ := hrel
    have HB := Lib.hid hb
    have HA := Lib.hid hap
    clear hap
    by_cases hlt : j < m
    · have hlj : (j : Int) < (m : Int) := by omega
      obtain ⟨b1, o1, rfl, hc1⟩ := HT.out j (by have := HM.out; have := HU.out; simp; omega)
      obtain ⟨f0', f1', f2'⟩ := bf_cells hc1
      have f0 := keepc' f0' hb
      have f1 := keepc' f1' hb
      have f2 := keepc' f2' hb
      have hk : n + 1 + j < ml := by have := HM.out; omega
      have hdr : (s.undo.drop (n + 1)).getD j default = s.undo.getD (n + 1 + j) default := by simp [List.getD_eq_getElem?_getD]
      rw [hdr, show s.undo.getD (n + 1 + j) default = _ from hrest.out _ hk] at f0 f1 f2
      have hsk := Lib.hid (hskip.out _ hk)
      have k1 := keepc' g1 hb
      have k2 := keepc' d0 hb
      have k1x := fun o => keepc' k1 (bel1 wr o)
      have k2x := fun o => keepc' k2 (bel1 wr o)
      clear hc1 f0' f1' f2' hdr hb
      by_cases he : (s.more.getD (n + 1 + j) default).1 = x1
      · rw [he, HA.out] at f1
        rw [he] at f0
        simp only [Option.getD_some] at f1
        clear hsk
        generalize (apply s.base (List.take (n + 1 + j) s.more) (s.more.getD (n + 1 + j) default).fst).isSome = isn at *
        have hni : (n : Int) < (ml : Int) := by have := HN.out; omega
        go_wp2
        go_quiet (fail)
        go_wp2
        go_ret
        exact retV rfl (grew_trans HB.out (below_drewN (bel1 _ _) nq))
      · have hne : ((s.more.getD (n + 1 + j) default).1 == x1) = false := beq_eq_false_iff_ne.2 he
        have hnx := Lib.hid (hsk.out he)
        have hni : (n : Int) < (ml : Int) := by have := HN.out; omega
        clear hsk he
        generalize (s.more.getD (n + 1 + j) default).1 = y1 at *
        generalize (apply s.base (List.take (n + 1 + j) s.more) y1).isSome = isn at *
        generalize (apply s.base (List.take (n + 1 + j) s.more) y1).getD ByteArray.empty = y2 at *
        go_wp2
        go_quiet (fail)
        go_wp2
        go_roundg (gk - 1)
        case measure => omega
        case rel => exact ⟨j + 1, by omega, by simp, grew_trans HB.out (below_drewN (bel1 _ _) nq), by rw [← HA.out, ← hnx.out]; congr 2⟩
    · obtain rfl : j = m := by omega
      have hge : (j : Int) ≤ (j : Int) := Int.le_refl _
      have k0 := fun y : Later wr => y.cell (keepc' g0 hb)
      have k1 := fun y : Later wr => y.cell (keepc' g1 hb)
      have k2 := fun y : Later wr => y.cell (keepc' d0 hb)
      have hni : (n : Int) < (ml : Int) := by have := HN.out; omega
      have hall : s.now x1 = some x2 := by
        have := HA.out
        rw [List.take_of_length_le (by have := HM.out; have := HML.out; omega)] at this
        exact this
      have hlk : ∀ y : Later wr, (Instr.lookup 58 (.map (some bm)) (.int .i64 x1) false).run Try.prog y.w = .ok (.string x2) y.w := fun y => by
        have := (HP2.out y.w (grew_trans HB.out y.h))
        rw [hall] at this
        exact this
      clear hlt hall hb
      go_upto_region 7 with fail
      refine wp_region_later_lit (by kernel_rfl) (by kernel_rfl) ?_
      repeat (any_goals (first | go_big_quiet_step (fail) | quiet_step (fail)))
      refine wpQuiet_nil ?_
      intro _ hw'
      obtain ⟨y, hw''⟩ := hw'
      subst hw''
      have hy := Lib.hid y.h
      clear k0 k1 k2 hlk
      generalize y.w = Y at *
      go_wp2
      go_ret
      exact retV rfl (grew_trans HB.out hy.out)
end Go.Proofs.Ytcgkdomfbkkboaa
