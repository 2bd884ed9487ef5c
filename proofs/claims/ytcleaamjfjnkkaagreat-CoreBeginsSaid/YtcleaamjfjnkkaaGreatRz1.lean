/- The reference's voter in memory; its small methods. -/
import Derived.Test.YtcleaamjfjnkkaaGreatCo31
namespace Go.Proofs.YtcleaamjfjnkkaaGreat
open Go.RowKit Go.Joins

def rcA (c : Co) (vt : Nat → Bool) (lv ov tv : Value) : Array Value :=
  #[.int .i64 c.me, .int .u64 c.term, .int .i64 c.voted, lv, .int .i64 c.commit, .int .i64 c.role, .int .i64 c.head, .int .i64 c.heard, .int .i64 c.since, .int .i64 c.timeout, .bool (vt 0), .bool (vt 1), .bool (vt 2),
    .int .i64 0, .int .i64 0, .int .i64 0, .int .i64 0, .int .i64 0, .int .i64 0, .int .i64 0, .int .i64 0, .int .i64 0, .int .i64 0, .int .i64 0, .int .i64 0, .int .i64 0, .int .i64 0, .int .i64 0, .int .i64 c.now, ov, tv]
/-- the reference's voter lies at q. -/
structure RL (w : World) (base q : Nat) (lv ov tv : Value) (vt : Nat → Bool) (c : Co) : Prop where
  blk : w.heap[q]? = some (.cells (rcA c vt lv ov tv) 53 (0, 0))
  bp : base ≤ q
  log : OwnE w base lv c.log
/-- its blocks. -/
def RF (q : Nat) (lv ov tv : Value) (k : Nat) : Prop := k = q ∨ lv.ownBlock = some k ∨ ov.ownBlock = some k ∨ tv.ownBlock = some k
structure RAt (w : World) (base q : Nat) (lv ov tv : Value) (vt : Nat → Bool) (os : List RM) (ds : List Int) (c : Co) : Prop extends RL w base q lv ov tv vt c where
  out : OwnL encM 26 63 w base ov os
  dst : OwnL encI 1 3 w base tv ds
section
variable {w w' : World} {base q : Nat} {lv ov tv : Value} {vt vt' : Nat → Bool} {os : List RM} {ds : List Int} {c c' : Co} {S : Nat → Prop}
theorem RL.cells (h : RL w base q lv ov tv vt c) :
    (w.cell? ⟨q, 0, none⟩ = some (.int .i64 c.me) ∧ w.cell? ⟨q, 1, none⟩ = some (.int .u64 c.term) ∧ w.cell? ⟨q, 2, none⟩ = some (.int .i64 c.voted) ∧ w.cell? ⟨q, 3, none⟩ = some lv ∧ w.cell? ⟨q, 4, none⟩ = some (.int .i64 c.commit) ∧ w.cell? ⟨q, 5, none⟩ = some (.int .i64 c.role) ∧ w.cell? ⟨q, 6, none⟩ = some (.int .i64 c.head) ∧ w.cell? ⟨q, 7, none⟩ = some (.int .i64 c.heard) ∧ w.cell? ⟨q, 8, none⟩ = some (.int .i64 c.since) ∧ w.cell? ⟨q, 9, none⟩ = some (.int .i64 c.timeout) ∧ w.cell? ⟨q, 28, none⟩ = some (.int .i64 c.now) ∧ w.cell? ⟨q, 29, none⟩ = some ov ∧ w.cell? ⟨q, 30, none⟩ = some tv) ∧
    (∀ i, w.frozen? ⟨q, i, none⟩ = false) := by
  refine ⟨⟨(cell_of h.blk 0 rfl).1, (cell_of h.blk 1 rfl).1, (cell_of h.blk 2 rfl).1, (cell_of h.blk 3 rfl).1, (cell_of h.blk 4 rfl).1, (cell_of h.blk 5 rfl).1, (cell_of h.blk 6 rfl).1, (cell_of h.blk 7 rfl).1, (cell_of h.blk 8 rfl).1, (cell_of h.blk 9 rfl).1, (cell_of h.blk 28 rfl).1, (cell_of h.blk 29 rfl).1, (cell_of h.blk 30 rfl).1⟩, fun i => ?_⟩
  simp [World.frozen?, h.blk]
theorem RL.not (h : RL w base q lv ov tv vt c) : lv.ownBlock ≠ some q := ownR_not h.log h.blk (fun cs e => by simp at e)
theorem RL.lt (h : RL w base q lv ov tv vt c) : (base ≤ q ∧ q < w.heap.size) ∧ ∀ g, lv.ownBlock = some g → base ≤ g ∧ g < w.heap.size := ⟨⟨h.bp, blk_lt h.blk⟩, fun g hg => World.ownsRow.lt h.log g hg⟩
theorem RL.mod (h : RL w base q lv ov tv vt c) (hm : Mod S w w') (hp : ¬ S q) (hl : ∀ g, lv.ownBlock = some g → ¬ S g) : RL w' base q lv ov tv vt c := ⟨hm.heap h.blk hp, h.bp, hm.own h.log hl⟩
theorem RL.below (h : RL w base q lv ov tv vt c) (hb : Below w.heap.size w w') : RL w' base q lv ov tv vt c := h.mod (Mod.belowAll hb) (fun c => c) (fun _ _ c => c)
theorem RAt.below (h : RAt w base q lv ov tv vt os ds c) (hb : Below w.heap.size w w') : RAt w' base q lv ov tv vt os ds c :=
  { h.toRL.below hb with
    out := h.out.below hb
    dst := h.dst.below hb }
theorem RAt.nots (h : RAt w base q lv ov tv vt os ds c) : lv.ownBlock ≠ some q ∧ ov.ownBlock ≠ some q ∧ tv.ownBlock ≠ some q :=
  ⟨h.toRL.not, ownR_not h.out h.blk (fun cs e => by simp at e), ownR_not h.dst h.blk (fun cs e => by simp at e)⟩
theorem RAt.apart (h : RAt w base q lv ov tv vt os ds c) : (∀ g, lv.ownBlock = some g → ov.ownBlock ≠ some g ∧ tv.ownBlock ≠ some g) ∧ (∀ g, ov.ownBlock = some g → tv.ownBlock ≠ some g) := by
  have hl : ∀ g, lv.ownBlock = some g → ∃ cur, w.heap[g]? = some (.cells cur 83 (0, 0)) := fun g hg => (OwnL.block (enc := encE) h.log hg).2
  refine ⟨fun g hg => ?_, fun g hg => ?_⟩
  · obtain ⟨cur, hc⟩ := hl g hg
    exact ⟨ownR_not h.out hc (fun cs e => by simp at e), ownR_not h.dst hc (fun cs e => by simp at e)⟩
  · obtain ⟨_, cur, hc⟩ := h.out.block hg
    exact ownR_not h.dst hc (fun cs e => by simp at e)
theorem RAt.lt (h : RAt w base q lv ov tv vt os ds c) : ∀ k, RF q lv ov tv k → base ≤ k ∧ k < w.heap.size := by
  rintro k (rfl | hk | hk | hk)
  · exact h.toRL.lt.1
  · exact h.toRL.lt.2 k hk
  · exact World.ownsRow.lt h.out k hk
  · exact World.ownsRow.lt h.dst k hk
/-- fields that are no lists are written. -/
theorem RAt.put (h : RAt w base q lv ov tv vt os ds c) (hblk : w'.heap[q]? = some (.cells (rcA c' vt' lv ov tv) 53 (0, 0))) (hm : Mod (fun k => k = q) w w') (h1 : c'.log = c.log) : RAt w' base q lv ov tv vt' os ds c' := by
  obtain ⟨n1, n2, n3⟩ := h.nots
  exact { blk := hblk, bp := h.bp, log := by rw [h1]; exact hm.own h.log (fun g hg e => n1 (e ▸ hg)), out := hm.own h.out (fun g hg e => n2 (e ▸ hg)), dst := hm.own h.dst (fun g hg e => n3 (e ▸ hg)) }
set_option maxRecDepth 100000 in
theorem rbegin_any (clock : Int) (h : RL w base q lv ov tv vt c) : Calls Tryz.prog 27 #[.pointer (some ⟨q, 0, none⟩), .int .i64 clock] w (Tup0 fun w' => RAt w' base q lv (.slice none 0 0) (.slice none 0 0) vt [] [] (c.begin clock) ∧ Mod (fun k => k = q) w w') := by
  obtain ⟨⟨-, -, -, -, -, -, -, -, -, -, g10, g29, g30⟩, gf⟩ := h.cells
  have f1 := gf 28
  have f2 := gf 29
  have f3 := gf 30
  have H := Lib.hid h
  clear gf h
  go_enter Tryz.func27, Tryz.ntmps27
  go_wp2
  go_end0
  refine ⟨rfl, ?_⟩
  have hm : Mod (fun k => k = q) w (((w.setCell ⟨q, 28, none⟩ (.int .i64 clock)).setCell ⟨q, 29, none⟩ (.slice none 0 0)).setCell ⟨q, 30, none⟩ (.slice none 0 0)) := ((Mod.cellOf q 28 _).trans (Mod.cellOf q 29 _)).trans (Mod.cellOf q 30 _)
  refine ⟨{ blk := ?_, bp := H.out.bp, log := hm.own H.out.log (fun g hg e => H.out.not (e ▸ hg)), out := ownL_nil _ _, dst := ownL_nil _ _ }, hm⟩
  rw [setCell_blk (setCell_blk (setCell_blk H.out.blk))]; rfl
end
def laterB (now since ticks : Int) : Bool := decide (since + ticks ≤ 9223372036854775807) && decide (since + ticks ≤ now)
set_option maxRecDepth 100000 in
theorem rlater_any (now since ticks : Int) (w : World) (h0 : 0 ≤ ticks) (h1 : ticks ≤ 100) (hs : I64 since) : Calls Tryz.prog 29 #[.int .i64 now, .int .i64 since, .int .i64 ticks] w (SameB (laterB now since ticks) w) := by
  obtain ⟨s1, s2⟩ := hs
  have b0 : 9223372036854775807 - ticks < 9223372036854775808 := by omega
  have b1 : -9223372036854775808 ≤ 9223372036854775807 - ticks := by omega
  by_cases a : since ≤ 9223372036854775807 - ticks
  · have b2 : since + ticks < 9223372036854775808 := by omega
    have b3 : -9223372036854775808 ≤ since + ticks := by omega
    by_cases b : since + ticks ≤ now
    · have hv : Hid (laterB now since ticks = true) := by show _ = _; unfold laterB; simp; omega
      go_enter Tryz.func29, Tryz.ntmps29
      go_wp2
      go_ret
      exact sameB (by rw [hv.out])
    · have hv : Hid (laterB now since ticks = false) := by show _ = _; unfold laterB; simp; omega
      have b' : now < since + ticks := by omega
      clear b
      have hd : decide (since + ticks ≤ now) = false := decide_eq_false (by omega)
      go_enter Tryz.func29, Tryz.ntmps29
      go_wp2
      go_ret
      exact sameB (by rw [hv.out])
  · have hv : Hid (laterB now since ticks = false) := by show _ = _; unfold laterB; simp; omega
    have hd : decide (since ≤ 9223372036854775807 - ticks) = false := decide_eq_false a
    clear a
    go_enter Tryz.func29, Tryz.ntmps29
    go_wp2
    go_ret
    exact sameB (by rw [hv.out])
/-- the other voters, rising. -/
def othL (me : Int) : Nat → List Int
  | 0 => []
  | k + 1 => othL me k ++ (if (k : Int) = me then [] else [(k : Int)])
theorem othL_len (me : Int) : ∀ k, (othL me k).length ≤ k
  | 0 => Nat.le_refl _
  | k + 1 => by have := othL_len me k; unfold othL; split <;> simp <;> omega
def RInts (xs : List Int) (w : World) (e : Ending) (w' : World) : Prop := ∃ v, e = .returned v ∧ OwnL encI 1 3 w' w.heap.size v xs ∧ Below w.heap.size w w'
theorem rlitI (w : World) (x : Int) : Lst encI 1 (w.alloc (.cells #[.int .i64 x] 3)) (some ⟨w.heap.size, 0, none⟩) [x] := (sli_lit EI w [x] 1 _ 3 rfl rfl (by unfold maxLen; omega)).lst
set_option maxHeartbeats 1000000 in
set_option maxRecDepth 100000 in
theorem rothers_any {w : World} {base q : Nat} {lv ov tv : Value} {vt : Nat → Bool} {c : Co} (h : RL w base q lv ov tv vt c) : Calls Tryz.prog 28 #[.pointer (some ⟨q, 0, none⟩)] w (RInts (othL c.me 3) w) := by
  have H := Lib.hid h
  generalize hme : c.me = me at *
  have HM := Lib.hid hme
  clear h hme
  go_enter Tryz.func28, Tryz.ntmps28
  go_wp2
  go_loopg [3, 4] 3 (fun gk u3 u4 wr => ∃ i : Nat, i + gk = 3 ∧ u4 = .int .i64 (i : Int) ∧ OwnL encI 1 3 wr w.heap.size u3 (othL me i) ∧ Below w.heap.size w wr)
  case atStart => exact ⟨0, by omega, rfl, ownL_nil _ _, Below.refl _ _⟩
  case round =>
    obtain ⟨i, hik, rfl, ho, hb⟩ := hrel
    have HO := Lib.hid ho
    have HB := Lib.hid hb
    have hg := (H.out.below hb).cells.1.1
    rw [HM.out] at hg
    have hlen := othL_len me i
    have HLE := Lib.hid hlen
    clear ho hb hlen
    by_cases hlt : i < 3
    · by_cases he : (i : Int) = me
      · have hee : ((i : Int) == me) = true := by simpa using he
        have hne : ((i : Int) != me) = false := by simp [he]
        have HS := Lib.hid (show othL me (i + 1) = othL me i by show othL me i ++ _ = _; rw [if_pos he, List.append_nil])
        clear he
        go_wp2
        go_roundg (gk - 1)
        case measure => omega
        case rel => exact ⟨i + 1, by omega, by simp, by rw [HS.out]; exact HO.out, HB.out⟩
      · have hee : ((i : Int) == me) = false := by simpa using he
        have hne : ((i : Int) != me) = true := by simp [he]
        have HS := Lib.hid (show othL me (i + 1) = othL me i ++ [(i : Int)] by show othL me i ++ _ = _; rw [if_neg he])
        clear he
        go_wp2_with (at_builtin; refine wpList_app (v := u3) (base := w.heap.size) EI TI rfl _ _ rfl rfl (HO.out.below (bel1 _ _)) (some ⟨_, 0, none⟩) 1 1 [(i : Int)] rfl rfl (rlitI _ _) (fun e => by cases e) (by have := HLE.out; simp; omega) (by have := HLE.out; unfold maxLen; simp; omega) (by have := HB.out.size; simp; omega) ?_; intro v' w' ho hgr hat)
        have HB2 := Lib.hid ((HB.out.trans ((bel1 wr (.cells #[.int .i64 (i : Int)] 3)).mono HB.out.size)).grown hgr (by have := HB.out.size; simp; omega) (fun j hj => (World.ownsRow.lt HO.out j hj).1))
        have HO2 := Lib.hid ho
        clear ho hgr hat
        go_wp2
        go_roundg (gk - 1)
        case measure => omega
        case rel => exact ⟨i + 1, by omega, by simp, by rw [HS.out]; exact HO2.out, HB2.out⟩
    · obtain rfl : i = 3 := by omega
      go_wp2
      go_ret
      exact ⟨_, rfl, HO.out, HB.out⟩
end Go.Proofs.YtcleaamjfjnkkaaGreat
