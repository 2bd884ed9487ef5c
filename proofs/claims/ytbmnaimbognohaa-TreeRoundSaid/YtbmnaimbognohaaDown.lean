/- The walk of the law TreeDown. -/
import Derived.Test.YtbmnaimbognohaaTurns
namespace Go.Proofs.Ytbmnaimbognohaa
open Go.RowKit Go.Joins
set_option linter.unusedVariables false

structure Dn (w0 w : World) (g r cap bx : Nat) (t : T) (x : Act) : Prop where
  tr : Tr w g r cap t
  below : Below w0.heap.size w0 w
  blk : w.heap[bx]? = some (.cells #[.int .i64 x.src, .int .i64 x.head, .bool x.behind, .int .i64 x.clock] 29 (0, 0))
theorem Dn.mod {w0 w w' : World} {g r cap bx : Nat} {t : T} {x : Act} (h : Dn w0 w g r cap bx t x) (hm : Mod (fun _ => False) w w') : Dn w0 w' g r cap bx t x :=
  ⟨h.tr.mod hm (fun h => h) (fun h => h), h.below.trans (hm.below (B := w0.heap.size) h.below.size (fun _ h => h.elim)), hm.heap h.blk (fun h => h)⟩
theorem Dn.cells {w0 w : World} {g r cap bx : Nat} {t : T} {x : Act} (h : Dn w0 w g r cap bx t x) : w.cell? ⟨bx, 0, none⟩ = some (.int .i64 x.src) ∧ w.cell? ⟨bx, 1, none⟩ = some (.int .i64 x.head) ∧ w.cell? ⟨bx, 2, none⟩ = some (.bool x.behind) ∧ w.cell? ⟨bx, 3, none⟩ = some (.int .i64 x.clock) :=
  ⟨cell_of_block h.blk 0, cell_of_block h.blk 1, cell_of_block h.blk 2, cell_of_block h.blk 3⟩
theorem Dn.turned {w0 w w1 : World} {g r cap bx : Nat} {t t' : T} {x : Act} (h : Dn w0 w g r cap bx t x) (h1 : TrPost g r cap t' w (.returned (.tuple #[])) w1) (hbx : bx ≠ g) (hg : w0.heap.size ≤ g) : Dn w0 w1 g r cap bx t' x :=
  ⟨h1.2.1, h.below.trans (h1.2.2.below (B := w0.heap.size) h.below.size (by intro k hk; omega)), h1.2.2.heap h.blk hbx⟩

/-- what is known of whom it pulls from. -/
theorem above_high {t : T} (hk : t.ok) (h : 3 ≤ t.me) (head : Int) (behind : Bool) : 0 ≤ t.above head behind ∧ t.above head behind < t.me := by
  rw [T.above_yes (T.turns_high h head behind)]
  exact (at_in t.me t.place hk.1 hk.2.1).1 h
theorem above_low {t : T} (hk : t.ok) (h : t.me < 3) (head : Int) (behind : Bool) :
    -1 ≤ t.above head behind ∧ t.above head behind < 3 ∧ t.above head behind ≠ t.me ∧ (head ≠ t.me → t.above head behind = -1 ∨ t.above head behind = head) ∧ (head = t.me → behind = false → t.above head behind = -1) := by
  by_cases hm : head = t.me
  · cases behind with
    | true =>
      have := (at_in t.me t.place hk.1 hk.2.1).2 h
      rw [T.above_yes (by rw [T.turns_me (by omega) hm])]
      exact ⟨by show -1 ≤ (rowL t.me).getD t.place 0; omega, this.2.1, this.2.2, fun e => absurd hm e, fun _ e => by cases e⟩
    | false =>
      rw [T.above_none (by rw [T.turns_me (by omega) hm]) (.inr (.inr hm))]
      exact ⟨by omega, by omega, by omega, fun _ => .inl rfl, fun _ _ => rfl⟩
  · have ht := T.turns_other (t := t) (by omega) hm behind
    by_cases h0 : 0 ≤ head ∧ head < 3
    · rw [T.above_head ht h0.1 h0.2 hm]
      exact ⟨by omega, h0.2, hm, fun _ => .inr rfl, fun e => absurd e hm⟩
    · rw [T.above_none ht (by omega)]
      exact ⟨by omega, by omega, by omega, fun _ => .inl rfl, fun e => absurd e hm⟩

set_option maxRecDepth 100000 in
set_option maxHeartbeats 4000000 in
theorem downLoop (me : Int) (hme0 : 0 ≤ me) (hme1 : me ≤ 255) (a : Option Addr) (len cap0 : Nat) (l : List Act) (w : World) (hl : l.length = len) (hlm : len ≤ maxLen) (ha : Acts w a l) (hk : ∀ x ∈ l, ActOk x) :
    Calls Try.prog 4 #[.int .u8 me, .slice a len cap0] w (RetB true w) := by
  unfold maxLen at hlm
  have Ha := Lib.hid ha
  have Hk := Lib.hid hk
  have Hl := Lib.hid hl
  clear ha hk hl
  obtain ⟨n, hn, hn6⟩ : ∃ n : Nat, me % 6 = (n : Int) ∧ n < 6 := ⟨(me % 6).toNat, by omega, by omega⟩
  go_enter Try.func4, Try.ntmps4
  go_wp2_with (first
    | (go_at_call 9; refine (works_any _).mono ?_; rintro e w1 ⟨rfl, hb1⟩; have Hb1 := Lib.hid hb1; clear hb1)
    | (go_at_call 7; (try rw [hn]); refine (new_any n 0 _ hn6).mono ?_; rintro e w2 ⟨g, r, cap, rfl, htr, hb2, hg, hr⟩; have Htr := Lib.hid htr; have Hb2 := Lib.hid hb2; clear htr hb2))
  try rw [hn]
  clear hn hme0 hme1
  have hb0 : Below w.heap.size w w2 := Hb1.out.trans (Hb2.out.mono Hb1.out.size)
  have hgw : w.heap.size ≤ g := Nat.le_trans Hb1.out.size hg
  clear hg hr
  have Hb0 := Lib.hid hb0
  have hok0 : T.ok ⟨n, 0, 0⟩ := ⟨hn6, by have := rowL_pos n hn6; show 0 < (rowL n).length; omega, by show _ ≤ (0 : Int); omega, by show (0 : Int) ≤ _; omega⟩
  have Hok0 := Lib.hid hok0
  clear hok0 hb0 Hb1 Hb2
  go_loopg [7] len (fun k v wr => k ≤ len ∧ v = .int .i64 ((len - k : Nat) : Int) ∧ ∃ t : T, t.ok ∧ t.me = n ∧ Tr wr g r cap t ∧ Below w.heap.size w wr)
  case atStart => exact ⟨Nat.le_refl _, by simp, _, Hok0.out, rfl, Htr.out, Hb0.out⟩
  case round =>
    obtain ⟨hkl, rfl, t, hok, htm, htr, hbr⟩ := hrel
    clear Htr Hok0 Hb0
    have Htr := Lib.hid htr
    have Hbr := Lib.hid hbr
    have Hok := Lib.hid hok
    have Htm := Lib.hid htm
    clear htr hok htm hbr
    generalize hi : len - gk = i
    have hi2 : i + gk = len := by omega
    clear hi
    by_cases hlt : i < len
    · by_cases h200 : i < 200
      · obtain ⟨b, off, rfl, hbw, x0, x1, x2, x3⟩ := Ha.out i (by rw [Hl.out]; exact hlt)
        replace x0 := (Hbr.out.cell (p := ⟨b, off + i * 4, none⟩) hbw).trans x0
        replace x1 := (Hbr.out.cell (p := ⟨b, off + i * 4 + 1, none⟩) hbw).trans x1
        replace x2 := (Hbr.out.cell (p := ⟨b, off + i * 4 + 2, none⟩) hbw).trans x2
        replace x3 := (Hbr.out.cell (p := ⟨b, off + i * 4 + 3, none⟩) hbw).trans x3
        have hxk : ActOk (l.getD i default) := by
          have hil : i < l.length := by rw [Hl.out]; exact hlt
          have := Hk.out (l[i]) (List.getElem_mem hil)
          simpa [hil] using this
        generalize l.getD i default = x at *
        obtain ⟨src, head, behind, ck⟩ := x
        simp only at x0 x1 x2 x3
        have hk1 : -9223372036854775808 ≤ ck := hxk.1
        have hk2 : ck ≤ 9223372036854775807 := hxk.2
        clear hxk
        have h200' : (i : Int) < 200 := by omega
        obtain ⟨bx, hbx⟩ : ∃ bx, bx = wr.heap.size := ⟨_, rfl⟩
        have hbne : bx ≠ g := by have h1 := (Array.getElem?_eq_some_iff.1 Htr.out.1).1; omega
        have hIn : Dn w (wr.alloc (.cells #[.int .i64 src, .int .i64 head, .bool behind, .int .i64 ck] 29)) g r cap bx t ⟨src, head, behind, ck⟩ :=
          ⟨Htr.out.mod (Mod.of_below (Joins.below_alloc1 wr _) (Nat.le_refl _) (fun _ => False)) (fun h => h) (fun h => h), Hbr.out.trans ((Joins.below_alloc1 wr _).mono Hbr.out.size), by rw [hbx]; exact World.alloc_heap_new _ _⟩
        have HIn := Lib.hid hIn
        have Hbx := Lib.hid hbx
        clear hIn hbx
        obtain ⟨t', ht'⟩ : ∃ t', t' = if 0 ≤ src then t.hear src ck else t.tick head behind ck := ⟨_, rfl⟩
        have Ht' := Lib.hid ht'
        clear ht'
        have hok' : t'.ok := by
          rw [Ht'.out]; split
          · exact T.hear_ok Hok.out _ _ ⟨hk1, hk2⟩
          · exact T.tick_ok Hok.out _ _ _ ⟨hk1, hk2⟩
        have htm' : t'.me = n := by
          rw [Ht'.out]; split
          · rw [T.hear_me]; exact Htm.out
          · rw [T.tick_me]; exact Htm.out
        have Hok' := Lib.hid hok'
        have Htm' := Lib.hid htm'
        clear hok' htm'
        go_upto_if 33 with (fail)
        rw [← Hbx.out]
        go_cut [] (fun wx => Dn w wx g r cap bx t' ⟨src, head, behind, ck⟩)
        case first =>
          by_cases hs : 0 ≤ src
          · have e : t' = t.hear src ck := by rw [Ht'.out, if_pos hs]
            have E := Lib.hid e; clear e
            obtain ⟨y0, y1, y2, y3⟩ := HIn.out.cells
            have HW := HIn
            generalize wr.alloc (.cells #[.int .i64 src, .int .i64 head, .bool behind, .int .i64 ck] 29) = W1 at *
            go_wp2_with (go_at_call 10; refine (hear_any g r cap t _ _ _ HW.out.tr Hok.out).mono ?_; rintro e w3 h3; obtain rfl := h3.1; have H3 := Lib.hid h3; clear h3)
            go_meet
            rw [E.out]
            exact HIn.out.turned H3.out hbne hgw
          · have e : t' = t.tick head behind ck := by rw [Ht'.out, if_neg hs]
            have E := Lib.hid e; clear e
            obtain ⟨y0, y1, y2, y3⟩ := HIn.out.cells
            have HW := HIn
            generalize wr.alloc (.cells #[.int .i64 src, .int .i64 head, .bool behind, .int .i64 ck] 29) = W1 at *
            go_wp2_with (go_at_call 12; refine (tick_any g r cap t _ _ _ _ HW.out.tr Hok.out hk1 hk2).mono ?_; rintro e w3 h3; obtain rfl := h3.1; have H3 := Lib.hid h3; clear h3)
            go_meet
            rw [E.out]
            exact HIn.out.turned H3.out hbne hgw
        case rest =>
          have HI2 := Lib.hid hcut
          obtain ⟨y0, y1, y2, y3⟩ := hcut.cells
          clear hcut HIn Htr Hbr Hok Htm x0 x1 x2 x3
          have habove := fun wx (h : Tr wx g r cap t') => above_any g r cap t' head behind wx h Hok'.out
          have hfacts : (3 ≤ n → 0 ≤ t'.above head behind ∧ t'.above head behind < n) ∧ (n < 3 → -1 ≤ t'.above head behind ∧ t'.above head behind < 3 ∧ t'.above head behind ≠ n ∧ (head ≠ n → t'.above head behind = -1 ∨ t'.above head behind = head) ∧ (head = n → behind = false → t'.above head behind = -1)) := by
            have e := Htm'.out
            exact ⟨fun h => by have := above_high Hok'.out (by omega) head behind; rw [e] at this; exact this, fun h => by have := above_low Hok'.out (by omega) head behind; rw [e] at this; exact this⟩
          generalize t'.above head behind = aa at habove hfacts
          have Habove := Lib.hid habove
          clear habove
          by_cases hn3 : 3 ≤ n
          · have hf := hfacts.1 hn3
            clear hfacts
            have ha1 : (aa == (n : Int)) = false := by simp; omega
            have hn3' : (3 : Int) ≤ (n : Int) := by omega
            go_wp2_with (go_at_call 14; refine (Habove.out _ HI2.out.tr).mono ?_; rintro e w5 ⟨rfl, hq⟩; have HI3 := Lib.hid (HI2.out.mod (quiet_mod hq)); clear hq y0 y1 y2 y3; obtain ⟨y0, y1, y2, y3⟩ := HI3.out.cells)
            go_roundg (gk - 1)
            case measure => omega
            case rel => exact ⟨by omega, by rw [show ((len - (gk - 1) : Nat) : Int) = (i : Int) + 1 by omega], t', Hok'.out, Htm'.out, HI3.out.tr, HI3.out.below⟩
          · obtain ⟨f1, f2, f3, f4, f5⟩ := hfacts.2 (by omega)
            clear hfacts
            have ha1 : (aa == (n : Int)) = false := by simp; exact f3
            have hn3' : ¬ ((3 : Int) ≤ (n : Int)) := by omega
            clear f3
            by_cases hm : head = n
            · have hh1 : (head != (n : Int)) = false := by simp [hm]
              have hh2 : (head == (n : Int)) = true := by simp [hm]
              cases behind with
              | true =>
                clear f4 f5 hm
                go_wp2_with (go_at_call 14; refine (Habove.out _ HI2.out.tr).mono ?_; rintro e w5 ⟨rfl, hq⟩; have HI3 := Lib.hid (HI2.out.mod (quiet_mod hq)); clear hq y0 y1 y2 y3; obtain ⟨y0, y1, y2, y3⟩ := HI3.out.cells)
                go_roundg (gk - 1)
                case measure => omega
                case rel => exact ⟨by omega, by rw [show ((len - (gk - 1) : Nat) : Int) = (i : Int) + 1 by omega], t', Hok'.out, Htm'.out, HI3.out.tr, HI3.out.below⟩
              | false =>
                have ha : aa = -1 := f5 hm rfl
                have ha2 : (aa != -1) = false := by simp [ha]
                clear f4 f5 hm ha
                go_wp2_with (go_at_call 14; refine (Habove.out _ HI2.out.tr).mono ?_; rintro e w5 ⟨rfl, hq⟩; have HI3 := Lib.hid (HI2.out.mod (quiet_mod hq)); clear hq y0 y1 y2 y3; obtain ⟨y0, y1, y2, y3⟩ := HI3.out.cells)
                go_roundg (gk - 1)
                case measure => omega
                case rel => exact ⟨by omega, by rw [show ((len - (gk - 1) : Nat) : Int) = (i : Int) + 1 by omega], t', Hok'.out, Htm'.out, HI3.out.tr, HI3.out.below⟩
            · have hh1 : (head != (n : Int)) = true := by simp [hm]
              have hh2 : (head == (n : Int)) = false := by simp [hm]
              rcases f4 hm with ha | ha
              · have ha2 : (aa != -1) = false := by simp [ha]
                clear f4 f5 hm ha
                go_wp2_with (go_at_call 14; refine (Habove.out _ HI2.out.tr).mono ?_; rintro e w5 ⟨rfl, hq⟩; have HI3 := Lib.hid (HI2.out.mod (quiet_mod hq)); clear hq y0 y1 y2 y3; obtain ⟨y0, y1, y2, y3⟩ := HI3.out.cells)
                go_roundg (gk - 1)
                case measure => omega
                case rel => exact ⟨by omega, by rw [show ((len - (gk - 1) : Nat) : Int) = (i : Int) + 1 by omega], t', Hok'.out, Htm'.out, HI3.out.tr, HI3.out.below⟩
              · have ha2 : (aa != head) = false := by simp [ha]
                clear f4 f5 hm ha
                by_cases ha3 : aa = -1
                · have ha4 : (aa != -1) = false := by simp [ha3]
                  clear ha3
                  go_wp2_with (go_at_call 14; refine (Habove.out _ HI2.out.tr).mono ?_; rintro e w5 ⟨rfl, hq⟩; have HI3 := Lib.hid (HI2.out.mod (quiet_mod hq)); clear hq y0 y1 y2 y3; obtain ⟨y0, y1, y2, y3⟩ := HI3.out.cells)
                  go_roundg (gk - 1)
                  case measure => omega
                  case rel => exact ⟨by omega, by rw [show ((len - (gk - 1) : Nat) : Int) = (i : Int) + 1 by omega], t', Hok'.out, Htm'.out, HI3.out.tr, HI3.out.below⟩
                · have ha4 : (aa != -1) = true := by simp [ha3]
                  clear ha3
                  go_wp2_with (go_at_call 14; refine (Habove.out _ HI2.out.tr).mono ?_; rintro e w5 ⟨rfl, hq⟩; have HI3 := Lib.hid (HI2.out.mod (quiet_mod hq)); clear hq y0 y1 y2 y3; obtain ⟨y0, y1, y2, y3⟩ := HI3.out.cells)
                  go_roundg (gk - 1)
                  case measure => omega
                  case rel => exact ⟨by omega, by rw [show ((len - (gk - 1) : Nat) : Int) = (i : Int) + 1 by omega], t', Hok'.out, Htm'.out, HI3.out.tr, HI3.out.below⟩
      · have h200' : ¬ ((i : Int) < 200) := by omega
        go_wp2
        go_ret
        exact retB rfl Hbr.out
    · have hlt' : ¬ ((i : Int) < (len : Int)) := by omega
      go_wp2
      go_ret
      exact retB rfl Hbr.out
end Go.Proofs.Ytbmnaimbognohaa
