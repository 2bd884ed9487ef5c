/- The walk of the law TreeTurns. -/
import Derived.Test.YtbmnaimbognohaaStraight
import Derived.Test.YtbmnaimbognohaaRef
import Derived.Deep.RegionHeld3
namespace Go.Proofs.Ytbmnaimbognohaa
open Go.RowKit Go.Joins
set_option linter.unusedVariables false

/-- something that is heard, or a tick. -/
structure Act where
  src : Int
  head : Int
  behind : Bool
  clock : Int
deriving Inhabited

/-- a slice of acts that came in. -/
def Acts (w : World) (a : Option Addr) (l : List Act) : Prop :=
  ∀ i, i < l.length → ∃ b off, a = some ⟨b, off, none⟩ ∧ b < w.heap.size ∧ w.cell? ⟨b, off + i * 4, none⟩ = some (.int .i64 (l.getD i default).src) ∧ w.cell? ⟨b, off + i * 4 + 1, none⟩ = some (.int .i64 (l.getD i default).head) ∧
    w.cell? ⟨b, off + i * 4 + 2, none⟩ = some (.bool (l.getD i default).behind) ∧ w.cell? ⟨b, off + i * 4 + 3, none⟩ = some (.int .i64 (l.getD i default).clock)
def ActOk (x : Act) : Prop := -9223372036854775808 ≤ x.clock ∧ x.clock ≤ 9223372036854775807

/-- both trees, at one state. -/
structure Both (w0 w : World) (g r cap g2 : Nat) (t : T) : Prop where
  tr : Tr w g r cap t
  rtr : RTr w g2 t
  below : Below w0.heap.size w0 w
theorem Both.mod {w0 w w' : World} {g r cap g2 : Nat} {t : T} (h : Both w0 w g r cap g2 t) (hm : Mod (fun _ => False) w w') : Both w0 w' g r cap g2 t :=
  ⟨h.tr.mod hm (fun h => h) (fun h => h), h.rtr.mod hm (fun h => h), h.below.trans (hm.below (B := w0.heap.size) h.below.size (fun _ h => h.elim))⟩
/-- .. and the act that is under way, in a block of its own. -/
structure In (w0 w : World) (g r cap g2 bx : Nat) (t : T) (x : Act) : Prop where
  both : Both w0 w g r cap g2 t
  blk : w.heap[bx]? = some (.cells #[.int .i64 x.src, .int .i64 x.head, .bool x.behind, .int .i64 x.clock] 29 (0, 0))
theorem In.mod {w0 w w' : World} {g r cap g2 bx : Nat} {t : T} {x : Act} (h : In w0 w g r cap g2 bx t x) (hm : Mod (fun _ => False) w w') : In w0 w' g r cap g2 bx t x :=
  ⟨h.both.mod hm, hm.heap h.blk (fun h => h)⟩
theorem In.drew {w0 w : World} {g r cap g2 bx : Nat} {t : T} {x : Act} (h : In w0 w g r cap g2 bx t x) : In w0 w.drew g r cap g2 bx t x := h.mod (Mod.drewN w 1)
theorem In.cells {w0 w : World} {g r cap g2 bx : Nat} {t : T} {x : Act} (h : In w0 w g r cap g2 bx t x) : w.cell? ⟨bx, 0, none⟩ = some (.int .i64 x.src) ∧ w.cell? ⟨bx, 1, none⟩ = some (.int .i64 x.head) ∧ w.cell? ⟨bx, 2, none⟩ = some (.bool x.behind) ∧ w.cell? ⟨bx, 3, none⟩ = some (.int .i64 x.clock) :=
  ⟨cell_of_block h.blk 0, cell_of_block h.blk 1, cell_of_block h.blk 2, cell_of_block h.blk 3⟩
/-- one tree turns, then the other one. -/
theorem In.turned {w0 w w1 w2 : World} {g r cap g2 bx : Nat} {t t' : T} {x : Act} (h : In w0 w g r cap g2 bx t x) (h1 : TrPost g r cap t' w (.returned (.tuple #[])) w1) (h2 : RPost g2 t' w1 (.returned (.tuple #[])) w2)
    (hn : g2 ≠ g ∧ g2 ≠ r) (hbx : bx ≠ g ∧ bx ≠ g2) (hg : w0.heap.size ≤ g ∧ w0.heap.size ≤ g2) : In w0 w2 g r cap g2 bx t' x := by
  obtain ⟨_, a1, a2⟩ := h1
  obtain ⟨_, b1, b2⟩ := h2
  exact ⟨⟨a1.mod b2 (fun e => hn.1 e.symm) (fun e => hn.2 e.symm), b1, (h.both.below.trans (a2.below (B := w0.heap.size) h.both.below.size (by intro k hk; omega))).trans (b2.below (B := w0.heap.size) (Nat.le_trans h.both.below.size a2.size) (by intro k hk; omega))⟩,
    b2.heap (a2.heap h.blk hbx.1) hbx.2⟩
theorem quiet_mod {w w' : World} (h : ∃ n, w' = w.drewN n) : Mod (fun _ => False) w w' := by obtain ⟨n, rfl⟩ := h; exact Mod.drewN _ _

def InPost (w0 : World) (g r cap g2 bx : Nat) (t : T) (x : Act) (n : Int) (e : Ending) (w' : World) : Prop := e = .returned (.int .i64 n) ∧ In w0 w' g r cap g2 bx t x
theorem in_above {w0 : World} {g r cap g2 bx : Nat} {t : T} {x : Act} (hk : t.ok) (head : Int) (behind : Bool) (w : World) (h : In w0 w g r cap g2 bx t x) :
    Calls Try.prog 14 #[.pointer (some ⟨g, 0, none⟩), .int .i64 head, .bool behind] w (InPost w0 g r cap g2 bx t x (t.above head behind)) :=
  (above_any g r cap t head behind w h.both.tr hk).mono fun _ _ ⟨he, hq⟩ => ⟨he, h.mod (quiet_mod hq)⟩
theorem in_rabove {w0 : World} {g r cap g2 bx : Nat} {t : T} {x : Act} (hk : t.ok) (head : Int) (behind : Bool) (w : World) (h : In w0 w g r cap g2 bx t x) :
    Calls Try.prog 15 #[.pointer (some ⟨g2, 0, none⟩), .int .i64 head, .bool behind] w (InPost w0 g r cap g2 bx t x (t.above head behind)) :=
  (rabove_any g2 t head behind w h.both.rtr hk).mono fun _ _ ⟨he, hb⟩ => ⟨he, h.mod (Mod.of_below hb (Nat.le_refl _) _)⟩

set_option maxRecDepth 100000 in
set_option maxHeartbeats 2000000 in
theorem turnsLoop (me : Nat) (clock : Int) (hm6 : me < 6) (hc1 : -9223372036854775808 ≤ clock) (hc2 : clock ≤ 9223372036854775807) (a : Option Addr) (len cap0 : Nat) (l : List Act) (w : World) (hl : l.length = len) (hlm : len ≤ maxLen) (ha : Acts w a l) (hk : ∀ x ∈ l, ActOk x) :
    Calls Try.prog 3 #[.int .i64 me, .int .i64 clock, .slice a len cap0] w (RetB true w) := by
  unfold maxLen at hlm
  have Ha := Lib.hid ha
  have Hk := Lib.hid hk
  have Hl := Lib.hid hl
  clear ha hk hl
  go_enter Try.func3, Try.ntmps3
  go_wp2_with (first
    | (go_at_call 7; refine (new_any me clock _ hm6).mono ?_; rintro e w1 ⟨g, r, cap, rfl, htr, hb1, hg, hr⟩; have Htr := Lib.hid htr; have Hb1 := Lib.hid hb1; clear htr hb1)
    | (go_at_call 8; refine (rnew_any me clock _ hm6).mono ?_; rintro e w2 ⟨g2, rfl, hrtr, hb2, hg2⟩; have Hrtr := Lib.hid hrtr; have Hb2 := Lib.hid hb2; clear hrtr hb2))
  have hI0 : Both w w2 g r cap g2 ⟨me, 0, clock⟩ := ⟨Htr.out.mod (Mod.of_below Hb2.out (Nat.le_refl _) (fun _ => False)) (fun h => h) (fun h => h), Hrtr.out, Hb1.out.trans (Hb2.out.mono Hb1.out.size)⟩
  have hlt := Htr.out.lt (by have := rowL_pos me hm6; show 0 < (rowL me).length; omega)
  have hne : g2 ≠ g ∧ g2 ≠ r := by omega
  have hsz := Hb1.out.size
  clear Htr Hrtr Hb1 Hb2
  have hok0 : T.ok ⟨me, 0, clock⟩ := ⟨hm6, by have := rowL_pos me hm6; show 0 < (rowL me).length; omega, hc1, hc2⟩
  have HI0 := Lib.hid hI0
  have Hok0 := Lib.hid hok0
  clear hI0 hok0
  go_loopg [9] len (fun k v wr => k ≤ len ∧ v = .int .i64 ((len - k : Nat) : Int) ∧ ∃ t : T, t.ok ∧ t.me = me ∧ Both w wr g r cap g2 t)
  case atStart => exact ⟨Nat.le_refl _, by simp, _, Hok0.out, rfl, HI0.out⟩
  case round =>
    obtain ⟨hkl, rfl, t, hok, htm, hI⟩ := hrel
    clear HI0 Hok0
    have HI := Lib.hid hI
    have Hok := Lib.hid hok
    have Htm := Lib.hid htm
    clear hI hok htm
    generalize hi : len - gk = i
    have hi2 : i + gk = len := by omega
    clear hi
    by_cases hlt : i < len
    · by_cases h200 : i < 200
      · obtain ⟨b, off, rfl, hbw, x0, x1, x2, x3⟩ := Ha.out i (by rw [Hl.out]; exact hlt)
        have hbel := HI.out.below
        replace x0 := (hbel.cell (p := ⟨b, off + i * 4, none⟩) hbw).trans x0
        replace x1 := (hbel.cell (p := ⟨b, off + i * 4 + 1, none⟩) hbw).trans x1
        replace x2 := (hbel.cell (p := ⟨b, off + i * 4 + 2, none⟩) hbw).trans x2
        replace x3 := (hbel.cell (p := ⟨b, off + i * 4 + 3, none⟩) hbw).trans x3
        clear hbel
        have hxk : ActOk (l.getD i default) := by
          have hil : i < l.length := by rw [Hl.out]; exact hlt
          have := Hk.out (l[i]) (List.getElem_mem hil)
          simpa [hil] using this
        generalize l.getD i default = x at *
        obtain ⟨src, head, behind, ck⟩ := x
        simp only at x0 x1 x2 x3
        have hk1 : -9223372036854775808 ≤ ck := hxk.1
        have hk2 : ck ≤ 9223372036854775807 := hxk.2
        clear hxk
        have h200' : (i : Int) < 200 := by omega
        obtain ⟨bx, hbx⟩ : ∃ bx, bx = wr.heap.size := ⟨_, rfl⟩
        have hbne : bx ≠ g ∧ bx ≠ g2 := by have := HI.out.below.size; have h1 := (Array.getElem?_eq_some_iff.1 HI.out.tr.1).1; have h2 := (Array.getElem?_eq_some_iff.1 HI.out.rtr).1; omega
        have hIn : In w (wr.alloc (.cells #[.int .i64 src, .int .i64 head, .bool behind, .int .i64 ck] 29)) g r cap g2 bx t ⟨src, head, behind, ck⟩ :=
          ⟨HI.out.mod (Mod.of_below (Joins.below_alloc1 wr _) (Nat.le_refl _) _), by rw [hbx]; exact World.alloc_heap_new _ _⟩
        have HIn := Lib.hid hIn
        have Hbx := Lib.hid hbx
        clear hIn hbx
        obtain ⟨t', ht'⟩ : ∃ t', t' = if 0 ≤ src then t.hear src ck else t.tick head behind ck := ⟨_, rfl⟩
        have Ht' := Lib.hid ht'
        clear ht'
        have hok' : t'.ok := by
          rw [Ht'.out]; split
          · exact T.hear_ok Hok.out _ _ ⟨hk1, hk2⟩
          · exact T.tick_ok Hok.out _ _ _ ⟨hk1, hk2⟩
        have htm' : t'.me = me := by
          rw [Ht'.out]; split
          · rw [T.hear_me]; exact Htm.out
          · rw [T.tick_me]; exact Htm.out
        have Hok' := Lib.hid hok'
        have Htm' := Lib.hid htm'
        clear hok' htm'
        go_upto_if 48 with (fail)
        rw [← Hbx.out]
        go_cut [] (fun wx => In w wx g r cap g2 bx t' ⟨src, head, behind, ck⟩)
        case first =>
          by_cases hs : 0 ≤ src
          · have e : t' = t.hear src ck := by rw [Ht'.out, if_pos hs]
            have E := Lib.hid e; clear e
            obtain ⟨y0, y1, y2, y3⟩ := HIn.out.cells
            have HW := HIn
            generalize wr.alloc (.cells #[.int .i64 src, .int .i64 head, .bool behind, .int .i64 ck] 29) = W1 at *
            go_wp2_with (first
              | (go_at_call 10; refine (hear_any g r cap t _ _ _ HW.out.both.tr Hok.out).mono ?_; rintro e w3 h3; obtain rfl := h3.1; have H3 := Lib.hid h3; have hc3 := (In.cells (x := ⟨src, head, behind, ck⟩) ⟨⟨HW.out.both.tr, HW.out.both.rtr, HW.out.both.below⟩, HW.out.blk⟩); have hblk3 := h3.2.2.heap HW.out.blk hbne.1; have z0 := cell_of_block hblk3 0; have z3 := cell_of_block hblk3 3; clear h3 hc3 hblk3)
              | (go_at_call 11; refine (rhear_any g2 t _ _ _ (HW.out.both.rtr.mod H3.out.2.2 hne.1) Hok.out).mono ?_; rintro e w4 h4; obtain rfl := h4.1; have H4 := Lib.hid h4; clear h4))
            go_meet
            rw [E.out]
            exact HIn.out.turned H3.out H4.out hne hbne ⟨hg, by omega⟩
          · have e : t' = t.tick head behind ck := by rw [Ht'.out, if_neg hs]
            have E := Lib.hid e; clear e
            obtain ⟨y0, y1, y2, y3⟩ := HIn.out.cells
            have HW := HIn
            generalize wr.alloc (.cells #[.int .i64 src, .int .i64 head, .bool behind, .int .i64 ck] 29) = W1 at *
            go_wp2_with (first
              | (go_at_call 12; refine (tick_any g r cap t _ _ _ _ HW.out.both.tr Hok.out hk1 hk2).mono ?_; rintro e w3 h3; obtain rfl := h3.1; have H3 := Lib.hid h3; have hblk3 := h3.2.2.heap HW.out.blk hbne.1; have z1 := cell_of_block hblk3 1; have z2 := cell_of_block hblk3 2; have z3 := cell_of_block hblk3 3; clear h3 hblk3)
              | (go_at_call 13; refine (rtick_any g2 t _ _ _ _ (HW.out.both.rtr.mod H3.out.2.2 hne.1) Hok.out hk1 hk2).mono ?_; rintro e w4 h4; obtain rfl := h4.1; have H4 := Lib.hid h4; clear h4))
            go_meet
            rw [E.out]
            exact HIn.out.turned H3.out H4.out hne hbne ⟨hg, by omega⟩
        case rest =>
          have HI2 := Lib.hid hcut
          obtain ⟨y0, y1, y2, y3⟩ := hcut.cells
          clear hcut HIn HI Hok Htm x0 x1 x2 x3
          have Hme := Lib.hid (show (me : Int) = t'.me by rw [Htm'.out])
          go_upto_region 13 with (fail)
          have hbn : ∀ n : Int, (n != n) = false := fun n => by simp
          have hkeep : ∀ wx, In w wx g r cap g2 bx t' ⟨src, head, behind, ck⟩ → wx.cell? ⟨bx, 1, none⟩ = some (.int .i64 head) ∧ wx.cell? ⟨bx, 2, none⟩ = some (.bool behind) ∧ In w wx g r cap g2 bx t' ⟨src, head, behind, ck⟩ :=
            fun wx h => ⟨h.cells.2.1, h.cells.2.2.1, h⟩
          have Hkeep := Lib.hid hkeep
          clear hkeep
          go_region_held3 (fun w' => w'.cell? ⟨bx, 1, none⟩ = some (.int .i64 head) ∧ w'.cell? ⟨bx, 2, none⟩ = some (.bool behind) ∧ In w w' g r cap g2 bx t' ⟨src, head, behind, ck⟩)
            (first
              | exact Hkeep.out _ (by assumption)
              | exact Hkeep.out _ HI2.out
              | exact Hkeep.out _ HI2.out.drew)
            ((first
              | (go_at_call 14; refine (in_above Hok'.out _ _ _ (by first | assumption | exact HI2.out | exact HI2.out.drew | (rename_i hS; exact hS.2.2))).mono ?_; rintro e w5 ⟨rfl, hi5⟩)
              | (go_at_call 15; refine (in_rabove Hok'.out _ _ _ (by first | assumption | exact HI2.out | exact HI2.out.drew | (rename_i hS; exact hS.2.2))).mono ?_; rintro e w5 ⟨rfl, hi5⟩)))
          have Hi5 := Lib.hid hi5
          clear hi5
          go_wp2_with fail
          go_roundg (gk - 1)
          case measure => omega
          case rel => exact ⟨by omega, by rw [show ((len - (gk - 1) : Nat) : Int) = (i : Int) + 1 by omega], t', Hok'.out, Htm'.out, Hi5.out.both⟩
      · have h200' : ¬ ((i : Int) < 200) := by omega
        go_wp2_with (go_at_call 9; refine (works_any _).mono ?_; rintro e w5 ⟨rfl, hb5⟩)
        go_ret
        exact retB rfl (HI.out.below.trans (hb5.mono HI.out.below.size))
    · have hlt' : ¬ ((i : Int) < (len : Int)) := by omega
      go_wp2_with (go_at_call 9; refine (works_any _).mono ?_; rintro e w5 ⟨rfl, hb5⟩)
      go_ret
      exact retB rfl (HI.out.below.trans (hb5.mono HI.out.below.size))

set_option maxHeartbeats 1000000 in
theorem turnsNone (me clock : Int) (a : Option Addr) (len cap0 : Nat) (w : World) (h : me < 0 ∨ 6 ≤ me) :
    Calls Try.prog 3 #[.int .i64 me, .int .i64 clock, .slice a len cap0] w (RetB true w) := by
  go_enter Try.func3, Try.ntmps3
  go_wp2_with (first
    | (go_at_call 7; refine (new_none me clock _ h).mono ?_; rintro e w1 ⟨rfl, rfl⟩)
    | (go_at_call 8; refine (rnew_none me clock _ h).mono ?_; rintro e w2 ⟨rfl, rfl⟩)
    | (go_at_call 9; refine (works_any _).mono ?_; rintro e w5 ⟨rfl, hb5⟩))
  go_ret
  exact retB rfl hb5
end Go.Proofs.Ytbmnaimbognohaa
