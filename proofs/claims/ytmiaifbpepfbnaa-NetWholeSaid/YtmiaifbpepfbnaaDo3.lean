/- An act, done to both: all links healed; nothing; frames sent. -/
import Derived.Test.YtmiaifbpepfbnaaDo2
namespace Go.Proofs.Ytmiaifbpepfbnaa
open Go.RowKit Go.Joins Go.ChangeMaps

variable {w0 w w' : World} {p bm q : Nat} {s r : St} {F : Nat → Prop}
theorem b_heal2 (h : BE w0 w F p bm q s r) : (∃ v, w.cell? ⟨q, 2, none⟩ = some v) ∧ w.frozen? ⟨q, 2, none⟩ = false ∧ BE w0 (w.setCell ⟨q, 2, none⟩ (.slice none 0 0)) F p bm q s (healS r) := by
  obtain ⟨v, rv, c, h1, h2, h3, h4, h5⟩ := h
  have hap := apart h2 h3 h4
  have hm := mod_setCell q 2 w (.slice none 0 0)
  refine ⟨⟨c, h3.c.1.2.2.1⟩, h3.c.2 2 (by omega), v, rv, .slice none 0 0, h1.trans (hm.below h1.size (fun k e => by rw [e]; exact h3.bp)), h2.mod hm (fun k hk e => hap k hk (.inl e)), ?_, h4, fun k hk => ⟨(h5 k hk).1, fun c' => ?_, Nat.lt_of_lt_of_le (h5 k hk).2.2 hm.size⟩⟩
  · exact h3.put2 (S := fun _ => False) (s' := healS r) (Mod.refl _ w) (fun c => c) (fun _ _ c => c) (ownL_nil _ _) ⟨rfl, rfl, rfl, rfl⟩
  · rcases c' with e | e | e
    · exact (h5 k hk).2.1 (.inl e)
    · exact (h5 k hk).2.1 (.inr (.inl e))
    · simp [Value.ownBlock] at e
set_option maxHeartbeats 4000000 in
set_option maxRecDepth 100000 in
theorem do_heal (what xa xb : Int) (la : Option Addr) (n lc : Nat) (hw : what = 8) (h : BE w0 w (fun _ => False) p bm q s s) : Calls Try.prog 21 #[.pointer (some ⟨p, 0, none⟩), .pointer (some ⟨q, 0, none⟩), .agg #[.int .i64 what, .int .i64 xa, .int .i64 xb, .slice la n lc]] w (DoPost w0 p bm q (healS s)) := by
  have hBX := Lib.hid (be_box h (.cells #[.int .i64 what, .int .i64 xa, .int .i64 xb, .slice la n lc] 43))
  have e0 : (what == 0) = false := by simp; omega
  have e1 : (what == 1) = false := by simp; omega
  have e2 : (what == 2) = false := by simp; omega
  have e3 : (what == 3) = false := by simp; omega
  have e4 : (what == 4) = false := by simp; omega
  have e5 : (what == 5) = false := by simp; omega
  have e6 : (what == 6) = false := by simp; omega
  have e7 : (what == 7) = false := by simp; omega
  have e8 : (what == 8) = true := by simp; omega
  clear h hw
  go_enter Try.func21, Try.ntmps21
  go_wp2_with (go_at_call 25; refine (b_heal hBX.out).mono ?_; rintro e w1 ⟨rfl, hBs, -, -⟩; obtain ⟨⟨cv, c2⟩, q2, hB2⟩ := b_heal2 (hBs.less (F' := fun _ => False) (fun _ c => c.elim)); have HB2 := Lib.hid hB2; clear hBs hB2)
  go_ret
  exact ⟨rfl, HB2.out⟩
set_option maxHeartbeats 4000000 in
set_option maxRecDepth 100000 in
theorem do_none (what xa xb : Int) (la : Option Addr) (n lc : Nat) (hw : what < 0 ∨ 8 < what) (h : BE w0 w (fun _ => False) p bm q s s) : Calls Try.prog 21 #[.pointer (some ⟨p, 0, none⟩), .pointer (some ⟨q, 0, none⟩), .agg #[.int .i64 what, .int .i64 xa, .int .i64 xb, .slice la n lc]] w (DoPost w0 p bm q s) := by
  have hBX := Lib.hid ((be_box h (.cells #[.int .i64 what, .int .i64 xa, .int .i64 xb, .slice la n lc] 43)).less (F' := fun _ => False) (fun _ c => c.elim))
  have e0 : (what == 0) = false := by simp; omega
  have e1 : (what == 1) = false := by simp; omega
  have e2 : (what == 2) = false := by simp; omega
  have e3 : (what == 3) = false := by simp; omega
  have e4 : (what == 4) = false := by simp; omega
  have e5 : (what == 5) = false := by simp; omega
  have e6 : (what == 6) = false := by simp; omega
  have e7 : (what == 7) = false := by simp; omega
  have e8 : (what == 8) = false := by simp; omega
  clear h hw
  go_enter Try.func21, Try.ntmps21
  go_wp2
  go_ret
  exact ⟨rfl, hBX.out⟩
/-- a row of m frames that lies somewhere, whatever they are. -/
def RowM (g m : Nat) (W : World) : Prop := ∃ cur, W.heap[g]? = some (.cells cur 31 (0, 0)) ∧ m * 3 ≤ cur.size
theorem RowM.at {g m : Nat} {W : World} (h : RowM g m W) {i : Nat} (hi : i < m) : (∃ u, W.cell? ⟨g, i * 3 + 2, none⟩ = some u) ∧ W.frozen? ⟨g, i * 3 + 2, none⟩ = false ∧ ∀ v, RowM g m (W.setCell ⟨g, i * 3 + 2, none⟩ v) := by
  obtain ⟨cur, h1, h2⟩ := h
  have hlt : i * 3 + 2 < cur.size := by omega
  refine ⟨⟨cur[i * 3 + 2], (cell_of h1 _ (by simp [hlt])).1⟩, by simp [World.frozen?, h1], fun v => ⟨_, setCell_blk h1, by simpa using h2⟩⟩
theorem OwnL.rowM {base g n cap : Nat} {W : World} {xs : List Fr} (h : OwnF W base (.slice (some ⟨g, 0, none⟩) n cap) xs) : RowM g xs.length W := by
  rcases h.2 with ⟨e, _⟩ | ⟨g', cap', cur, e, _, hg, h1, _, h3, _⟩
  · cases e
  · simp at e
    obtain ⟨rfl, -, rfl⟩ := e
    exact ⟨cur, hg, by rw [h3]; exact Nat.mul_le_mul_right 3 h1⟩
set_option maxHeartbeats 4000000 in
set_option maxRecDepth 100000 in
theorem do_send0 (what xa xb : Int) (la : Option Addr) (n lc : Nat) (hw : what = 0) (h : BE w0 w (fun _ => False) p bm q s s) (hg : Good s) (hfr : s.fr ≤ 1000000) (l : List Fr) (hl : Lst encF 3 w la l) (hn : l.length = n) : Calls Try.prog 21 #[.pointer (some ⟨p, 0, none⟩), .pointer (some ⟨q, 0, none⟩), .agg #[.int .i64 what, .int .i64 xa, .int .i64 xb, .slice la n lc]] w (DoPost w0 p bm q (sendS s (frs l))) := by
  have hX := Lib.hid (bel1 w (.cells #[.int .i64 what, .int .i64 xa, .int .i64 xb, .slice la n lc] 43))
  have hBX := Lib.hid ((be_box h (.cells #[.int .i64 what, .int .i64 xa, .int .i64 xb, .slice la n lc] 43)).less (F' := fun _ => False) (fun _ c => c.elim))
  have hfs := Lib.hid (fun W (hb : Below w.heap.size w W) => frames_any la lc l W (hl.below hb))
  subst hn
  have hG := Lib.hid hg
  have hF := Lib.hid hfr
  have hlen := Lib.hid (frs_len l)
  have e0 : (what == 0) = true := by simp; omega
  generalize frs l = fl at *
  clear h hw hl hg hfr
  have T1 := trivial
  go_enter Try.func21, Try.ntmps21
  go_wp2_with (first
    | (have z := T1; go_at_call 15; refine (hfs.out _ hX.out).mono ?_; rintro e w1 ⟨v, rfl, ho, hb⟩; obtain ⟨a', c', rfl, hs, hlt⟩ := ho.sli EF; have hS := Lib.hid hs; have hLT := Lib.hid hlt; have hO := Lib.hid ho; have hB1 := Lib.hid (hBX.out.more hb); clear hs hlt ho hb z T1; have T2 := trivial)
    | (have z := T2; go_at_call 9; refine (b_send hB1.out hG.out hS.out rfl (by have := hF.out; have := hlen.out; omega) (fun b off e => .inr (hLT.out b off e))).mono ?_; rintro e w2 ⟨rfl, hBs, -, hM⟩; have hO2 := Lib.hid (hO.out.mod hM (fun g hg c => c.1 (.inr (World.ownsRow.lt hO.out g hg)))); have hB2 := Lib.hid hBs; clear hBs hM hB1 hS hO z T2; have T3 := trivial)
    | (have z := T3; go_at_call 10; refine (b_rsend hB2.out hG.out (hO2.out.slix EF) rfl (by have := hF.out; have := hlen.out; omega) (fun b off e => .inr (hLT.out b off e))).mono ?_; rintro e w3 ⟨rfl, hBs, -, hM⟩; have hO3 := Lib.hid (hO2.out.mod hM (fun g hg c => c.1 (.inr (by cases hz : a' with | none => rw [hz] at hg; simp [Value.ownBlock] at hg | some ad => obtain ⟨bb, oo, ss⟩ := ad; rw [hz] at hg; simp [Value.ownBlock] at hg; subst hg; obtain ⟨b2, o2, e2⟩ := (hO2.out.slix EF).plain _ hz; simp at e2; exact hLT.out bb oo (by rw [hz, e2.2.2]))))); have hB3 := Lib.hid hBs; clear hBs hM hB2 hO2 z T3))
  obtain ⟨g, hg⟩ : ∃ g, 0 < fl.length → a' = some ⟨g, 0, none⟩ ∧ RowM g fl.length w3 := by
    by_cases h0 : 0 < fl.length
    · obtain ⟨g, cap, e, -, -⟩ := hO3.out.form h0
      simp at e
      obtain ⟨rfl, rfl⟩ := e
      exact ⟨g, fun _ => ⟨rfl, hO3.out.rowM⟩⟩
    · exact ⟨0, fun c => absurd c h0⟩
  have hB4 : BE w0 w3 (fun k => 0 < fl.length ∧ k = g) p bm q (sendS s fl) (sendS s fl) := hB3.out.less (fun k hk => .inr (by rw [hk.2]; exact hLT.out g 0 (hg hk.1).1))
  have hbg : 0 < fl.length → w0.heap.size ≤ g := fun h0 => Nat.le_trans (Nat.le_trans hBX.out.bel.size (Nat.le_refl _)) (hLT.out g 0 (hg h0).1).1
  have hb30 := hlen.out
  generalize sendS s fl = s1 at *
  clear hB3 hO3 hLT hBX hX hfs
  generalize hm : fl.length = m at *
  have HG := Lib.hid hg
  have HBG := Lib.hid hbg
  have HB4 := Lib.hid hB4
  clear hg hbg hB4 hm hlen
  have N1 := trivial
  go_loopg [8] m (fun gk v8 wr => ∃ i : Nat, i + gk = m ∧ v8 = .int .i64 (i : Int) ∧ BE w0 wr (fun k => 0 < m ∧ k = g) p bm q s1 s1 ∧ (0 < m → RowM g m wr))
  case atStart => exact ⟨0, by omega, rfl, HB4.out, fun h0 => (HG.out h0).2⟩
  case round =>
    obtain ⟨i, hik, rfl, hB, hR⟩ := hrel
    by_cases hlt : i < m
    · have hli : (i : Int) < (m : Int) := by omega
      have h0 : 0 < m := by omega
      obtain ⟨ha, -⟩ := HG.out h0
      subst ha
      obtain ⟨⟨u, hu⟩, hf, hnx⟩ := (hR h0).at hlt
      have HB := Lib.hid hB
      have HN := Lib.hid hnx
      have HZ := Lib.hid h0
      clear hB hR hnx h0
      go_wp2
      go_roundg (gk - 1)
      case measure => omega
      case rel => exact ⟨i + 1, by omega, by simp, HB.out.mod (mod_setCell g (i * 3 + 2) _ _) (fun k e => ⟨HZ.out, e⟩) (fun k e => by rw [e]; exact HBG.out HZ.out), fun _ => HN.out _⟩
    · obtain rfl : i = m := by omega
      have HB := Lib.hid hB
      clear hB hR
      go_wp2
      go_ret
      exact ⟨rfl, HB.out.less (fun _ c => c.elim)⟩
set_option maxHeartbeats 4000000 in
set_option maxRecDepth 100000 in
theorem do_send1 (what xa xb : Int) (la : Option Addr) (n lc : Nat) (hw : what = 1) (h : BE w0 w (fun _ => False) p bm q s s) (hg : Good s) (hfr : s.fr ≤ 1000000) (l : List Fr) (hl : Lst encF 3 w la l) (hn : l.length = n) : Calls Try.prog 21 #[.pointer (some ⟨p, 0, none⟩), .pointer (some ⟨q, 0, none⟩), .agg #[.int .i64 what, .int .i64 xa, .int .i64 xb, .slice la n lc]] w (DoPost w0 p bm q (sendS s (frs l))) := by
  have hX := Lib.hid (bel1 w (.cells #[.int .i64 what, .int .i64 xa, .int .i64 xb, .slice la n lc] 43))
  have hBX := Lib.hid ((be_box h (.cells #[.int .i64 what, .int .i64 xa, .int .i64 xb, .slice la n lc] 43)).less (F' := fun _ => False) (fun _ c => c.elim))
  have hfs := Lib.hid (fun W (hb : Below w.heap.size w W) => frames_any la lc l W (hl.below hb))
  subst hn
  have hG := Lib.hid hg
  have hF := Lib.hid hfr
  have hlen := Lib.hid (frs_len l)
  have e0 : (what == 0) = false := by simp; omega
  have e1 : (what == 1) = true := by simp; omega
  generalize frs l = fl at *
  clear h hw hl hg hfr
  have T1 := trivial
  go_enter Try.func21, Try.ntmps21
  go_wp2_with (first
    | (have z := T1; go_at_call 15; refine (hfs.out _ hX.out).mono ?_; rintro e w1 ⟨v, rfl, ho, hb⟩; obtain ⟨a', c', rfl, hs, hlt⟩ := ho.sli EF; have hS := Lib.hid hs; have hLT := Lib.hid hlt; have hO := Lib.hid ho; have hB1 := Lib.hid (hBX.out.more hb); clear hs hlt ho hb z T1; have T2 := trivial)
    | (have z := T2; go_at_call 9; refine (b_send hB1.out hG.out hS.out rfl (by have := hF.out; have := hlen.out; omega) (fun b off e => .inr (hLT.out b off e))).mono ?_; rintro e w2 ⟨rfl, hBs, -, hM⟩; have hO2 := Lib.hid (hO.out.mod hM (fun g hg c => c.1 (.inr (World.ownsRow.lt hO.out g hg)))); have hB2 := Lib.hid hBs; clear hBs hM hB1 hS hO z T2; have T3 := trivial)
    | (have z := T3; go_at_call 10; refine (b_rsend hB2.out hG.out (hO2.out.slix EF) rfl (by have := hF.out; have := hlen.out; omega) (fun b off e => .inr (hLT.out b off e))).mono ?_; rintro e w3 ⟨rfl, hBs, -, hM⟩; have hO3 := Lib.hid (hO2.out.mod hM (fun g hg c => c.1 (.inr (by cases hz : a' with | none => rw [hz] at hg; simp [Value.ownBlock] at hg | some ad => obtain ⟨bb, oo, ss⟩ := ad; rw [hz] at hg; simp [Value.ownBlock] at hg; subst hg; obtain ⟨b2, o2, e2⟩ := (hO2.out.slix EF).plain _ hz; simp at e2; exact hLT.out bb oo (by rw [hz, e2.2.2]))))); have hB3 := Lib.hid hBs; clear hBs hM hB2 hO2 z T3))
  obtain ⟨g, hg⟩ : ∃ g, 0 < fl.length → a' = some ⟨g, 0, none⟩ ∧ RowM g fl.length w3 := by
    by_cases h0 : 0 < fl.length
    · obtain ⟨g, cap, e, -, -⟩ := hO3.out.form h0
      simp at e
      obtain ⟨rfl, rfl⟩ := e
      exact ⟨g, fun _ => ⟨rfl, hO3.out.rowM⟩⟩
    · exact ⟨0, fun c => absurd c h0⟩
  have hB4 : BE w0 w3 (fun k => 0 < fl.length ∧ k = g) p bm q (sendS s fl) (sendS s fl) := hB3.out.less (fun k hk => .inr (by rw [hk.2]; exact hLT.out g 0 (hg hk.1).1))
  have hbg : 0 < fl.length → w0.heap.size ≤ g := fun h0 => Nat.le_trans (Nat.le_trans hBX.out.bel.size (Nat.le_refl _)) (hLT.out g 0 (hg h0).1).1
  have hb30 := hlen.out
  generalize sendS s fl = s1 at *
  clear hB3 hO3 hLT hBX hX hfs
  generalize hm : fl.length = m at *
  have HG := Lib.hid hg
  have HBG := Lib.hid hbg
  have HB4 := Lib.hid hB4
  clear hg hbg hB4 hm hlen
  have N1 := trivial
  go_loopg [8] m (fun gk v8 wr => ∃ i : Nat, i + gk = m ∧ v8 = .int .i64 (i : Int) ∧ BE w0 wr (fun k => 0 < m ∧ k = g) p bm q s1 s1 ∧ (0 < m → RowM g m wr))
  case atStart => exact ⟨0, by omega, rfl, HB4.out, fun h0 => (HG.out h0).2⟩
  case round =>
    obtain ⟨i, hik, rfl, hB, hR⟩ := hrel
    by_cases hlt : i < m
    · have hli : (i : Int) < (m : Int) := by omega
      have h0 : 0 < m := by omega
      obtain ⟨ha, -⟩ := HG.out h0
      subst ha
      obtain ⟨⟨u, hu⟩, hf, hnx⟩ := (hR h0).at hlt
      have HB := Lib.hid hB
      have HN := Lib.hid hnx
      have HZ := Lib.hid h0
      clear hB hR hnx h0
      go_wp2
      go_roundg (gk - 1)
      case measure => omega
      case rel => exact ⟨i + 1, by omega, by simp, HB.out.mod (mod_setCell g (i * 3 + 2) _ _) (fun k e => ⟨HZ.out, e⟩) (fun k e => by rw [e]; exact HBG.out HZ.out), fun _ => HN.out _⟩
    · obtain rfl : i = m := by omega
      have HB := Lib.hid hB
      clear hB hR
      go_wp2
      go_ret
      exact ⟨rfl, HB.out.less (fun _ c => c.elim)⟩
end Go.Proofs.Ytmiaifbpepfbnaa
