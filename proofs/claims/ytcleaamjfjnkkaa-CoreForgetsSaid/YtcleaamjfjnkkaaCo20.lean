/- What another voter answered. -/
import Derived.Test.YtcleaamjfjnkkaaCo18
import Derived.Test.YtcleaamjfjnkkaaCo11
import Derived.Deep.DeepCutAuto
namespace Go.Proofs.Ytcleaamjfjnkkaa
open Go.RowKit Go.Joins

/-- a message by value. -/
abbrev mArr (m : Mg) (ea : Option Addr) (en ec : Nat) (r : Nat → Value) : Array Value := #[.int .i64 m.kind, .int .u64 m.term, .int .i64 m.prev, .int .u64 m.pterm, .slice ea en ec, .int .i64 m.commit, .bool m.yes, .int .i64 m.mat, .int .i64 m.stamp, r 0, r 1, r 2, r 3, r 4, r 5, r 6, r 7, r 8, r 9, r 10, r 11, r 12, r 13, r 14, r 15, r 16]
/-- a voter, a box with its place, a box with a message; since w0 the voter alone was turned. -/
structure AnsW (w0 : World) (n0 base p : Nat) (lv ov tv : Value) (os : List RM) (mb : Array Value) (c : Co) (w : World) : Prop where
  cat : CAt w base p lv ov tv os c
  b0 : w.heap[n0]? = some (.cells #[.pointer (some ⟨p, 0, none⟩)] 31 (0, 0))
  b1 : w.heap[n0 + 1]? = some (.cells mb 46 (0, 0))
  mod : Mod (fun k => k = p) w0 w
  ne : n0 ≠ p ∧ n0 + 1 ≠ p
theorem AnsW.below {w0 w w' : World} {n0 base p : Nat} {lv ov tv : Value} {os : List RM} {mb : Array Value} {c : Co} (h : AnsW w0 n0 base p lv ov tv os mb c w) (hb : Below w.heap.size w w') : AnsW w0 n0 base p lv ov tv os mb c w' :=
  ⟨h.cat.below hb, blk_below h.b0 hb, blk_below h.b1 hb, h.mod.trans (Mod.bel hb), h.ne⟩
theorem AnsW.put {w0 w w' : World} {n0 base p : Nat} {lv ov tv : Value} {os : List RM} {mb : Array Value} {c c' : Co} (h : AnsW w0 n0 base p lv ov tv os mb c w) (hblk : w'.heap[p]? = some (.cells (coA c' lv ov tv) 76 (0, 0))) (hm : Mod (fun k => k = p) w w') (h1 : c'.log = c.log) (h2 : c'.out = c.out) (h3 : c'.dest = c.dest) (h4 : c'.gh = c.gh := by first | rfl | exact Co.follow_gh _ _) :
    AnsW w0 n0 base p lv ov tv os mb c' w' :=
  ⟨h.cat.put hblk hm h1 h2 h3 h4, hm.heap h.b0 h.ne.1, hm.heap h.b1 h.ne.2, h.mod.trans hm, h.ne⟩
def Cel2 (a : Addr) (x : Value) (b : Addr) (y : Value) (w : World) : Prop := w.cell? a = some x ∧ w.cell? b = some y
def Cel3 (a : Addr) (x : Value) (b : Addr) (y : Value) (c : Addr) (z : Value) (w : World) : Prop := w.cell? a = some x ∧ w.cell? b = some y ∧ w.cell? c = some z
set_option linter.unusedSimpArgs false in
set_option linter.unusedVariables false in
set_option maxHeartbeats 8000000 in
set_option maxRecDepth 100000 in
theorem ans_a {w : World} {base p : Nat} {lv ov tv : Value} {os : List RM} {c : Co} (m : Mg) (ea : Option Addr) (en ec : Nat) (r : Nat → Value) (v : Int) (h : CAt w base p lv ov tv os c) (ok : Ok c) (ht0 : 0 ≤ m.term) (ht1 : m.term ≤ 18446744073709551615) (hst : I64 m.stamp) (hma : I64 m.mat) (hl : c.out.length ≤ 80) (hd : c.dest.length ≤ 80) (hr : (c.follow m.term).role ≠ 2) :
    Calls Try.prog 48 #[.pointer (some ⟨p, 0, none⟩), .int .i64 v, .agg #[.int .i64 m.kind, .int .u64 m.term, .int .i64 m.prev, .int .u64 m.pterm, .slice ea en ec, .int .i64 m.commit, .bool m.yes, .int .i64 m.mat, .int .i64 m.stamp, r 0, r 1, r 2, r 3, r 4, r 5, r 6, r 7, r 8, r 9, r 10, r 11, r 12, r 13, r 14, r 15, r 16]] w (Tup0 (CUpd base p lv ov tv (c.follow m.term) w)) := by
  have mixed : Try.prog.follows .mixedOrders = true := by kernel_rfl
  have HW := Lib.hid (show Below w.heap.size w ((w.alloc (.cells #[.pointer (some ⟨p, 0, none⟩)] 31)).alloc (.cells (mArr m ea en ec r) 46)) from (bel1 w _).trans ((bel1 _ _).mono (by simp)))
  have HB0 := Lib.hid (blk_below (heap_alloc_new w (.cells #[.pointer (some ⟨p, 0, none⟩)] 31)) (bel1 _ (.cells (mArr m ea en ec r) 46)))
  have HB1 := Lib.hid (heap_alloc2_new w (.cells #[.pointer (some ⟨p, 0, none⟩)] 31) (.cells (mArr m ea en ec r) 46))
  have HNE := Lib.hid (show w.heap.size ≠ p ∧ w.heap.size + 1 ≠ p from ⟨by have := h.toCL.lt.1; omega, by have := h.toCL.lt.1; omega⟩)
  have HF := Lib.hid (follow_any m.term (h.below HW.out))
  have b0 := (cell_of HB0.out 0 (v := .pointer (some ⟨p, 0, none⟩)) rfl).1
  have b1 := (cell_of HB1.out 1 (v := .int .u64 m.term) rfl).1
  have HOK := Lib.hid (ok_follow ok ht0 ht1)
  have HO := Lib.hid (follow_out c m.term)
  have HL := Lib.hid (And.intro hl hd)
  have HS := Lib.hid (And.intro hst hma)
  have t1 : ((c.follow m.term).role != 2) = true := by simp [hr]
  generalize c.follow m.term = d at *
  clear h ok ht0 ht1 hst hma hl hd hr
  go_enter Try.func48, Try.ntmps48
  go_upto_region 2 with (go_at_call 61; refine HF.out.mono ?_; rintro e w1 ⟨rfl, hC, hM⟩; have A1 := Lib.hid (show AnsW ((w.alloc (.cells #[.pointer (some ⟨p, 0, none⟩)] 31)).alloc (.cells (mArr m ea en ec r) 46)) w.heap.size base p lv ov tv os (mArr m ea en ec r) d w1 from ⟨hC, hM.heap HB0.out HNE.out.1, hM.heap HB1.out HNE.out.2, hM, HNE.out⟩); obtain ⟨k0, k1⟩ := (And.intro (cell_of A1.out.b0 0 (v := .pointer (some ⟨p, 0, none⟩)) rfl).1 (cell_of A1.out.b1 1 (v := .int .u64 m.term) rfl).1); obtain ⟨g1, g5⟩ := (And.intro hC.toCL.cells.1.2.1 hC.toCL.cells.1.2.2.2.2.2.1); clear hC hM)
  go_quiet (fail)
  go_wp2
  go_end0
  exact ⟨rfl, CUpd.below HW.out (CUpd.then (A1.out.mod.mono (fun _ _ e => Or.inl e)) (fun _ hk => .inl hk) (A1.out.cat.stay (below_drewN' _ _)))⟩
set_option linter.unusedSimpArgs false in
set_option linter.unusedVariables false in
set_option maxHeartbeats 8000000 in
set_option maxRecDepth 100000 in
theorem ans_b {w : World} {base p : Nat} {lv ov tv : Value} {os : List RM} {c : Co} (m : Mg) (ea : Option Addr) (en ec : Nat) (r : Nat → Value) (v : Int) (h : CAt w base p lv ov tv os c) (ok : Ok c) (ht0 : 0 ≤ m.term) (ht1 : m.term ≤ 18446744073709551615) (hst : I64 m.stamp) (hma : I64 m.mat) (hl : c.out.length ≤ 80) (hd : c.dest.length ≤ 80) (hr : (c.follow m.term).role = 2) (ht : m.term ≠ (c.follow m.term).term) :
    Calls Try.prog 48 #[.pointer (some ⟨p, 0, none⟩), .int .i64 v, .agg #[.int .i64 m.kind, .int .u64 m.term, .int .i64 m.prev, .int .u64 m.pterm, .slice ea en ec, .int .i64 m.commit, .bool m.yes, .int .i64 m.mat, .int .i64 m.stamp, r 0, r 1, r 2, r 3, r 4, r 5, r 6, r 7, r 8, r 9, r 10, r 11, r 12, r 13, r 14, r 15, r 16]] w (Tup0 (CUpd base p lv ov tv (c.follow m.term) w)) := by
  have mixed : Try.prog.follows .mixedOrders = true := by kernel_rfl
  have HW := Lib.hid (show Below w.heap.size w ((w.alloc (.cells #[.pointer (some ⟨p, 0, none⟩)] 31)).alloc (.cells (mArr m ea en ec r) 46)) from (bel1 w _).trans ((bel1 _ _).mono (by simp)))
  have HB0 := Lib.hid (blk_below (heap_alloc_new w (.cells #[.pointer (some ⟨p, 0, none⟩)] 31)) (bel1 _ (.cells (mArr m ea en ec r) 46)))
  have HB1 := Lib.hid (heap_alloc2_new w (.cells #[.pointer (some ⟨p, 0, none⟩)] 31) (.cells (mArr m ea en ec r) 46))
  have HNE := Lib.hid (show w.heap.size ≠ p ∧ w.heap.size + 1 ≠ p from ⟨by have := h.toCL.lt.1; omega, by have := h.toCL.lt.1; omega⟩)
  have HF := Lib.hid (follow_any m.term (h.below HW.out))
  have b0 := (cell_of HB0.out 0 (v := .pointer (some ⟨p, 0, none⟩)) rfl).1
  have b1 := (cell_of HB1.out 1 (v := .int .u64 m.term) rfl).1
  have HOK := Lib.hid (ok_follow ok ht0 ht1)
  have HO := Lib.hid (follow_out c m.term)
  have HL := Lib.hid (And.intro hl hd)
  have HS := Lib.hid (And.intro hst hma)
  have t1 : ((c.follow m.term).role != 2) = false := by simp [hr]
  have t2 : (m.term != (c.follow m.term).term) = true := by simp [ht]
  generalize c.follow m.term = d at *
  clear h ok ht0 ht1 hst hma hl hd hr ht
  go_enter Try.func48, Try.ntmps48
  go_upto_region 2 with (go_at_call 61; refine HF.out.mono ?_; rintro e w1 ⟨rfl, hC, hM⟩; have A1 := Lib.hid (show AnsW ((w.alloc (.cells #[.pointer (some ⟨p, 0, none⟩)] 31)).alloc (.cells (mArr m ea en ec r) 46)) w.heap.size base p lv ov tv os (mArr m ea en ec r) d w1 from ⟨hC, hM.heap HB0.out HNE.out.1, hM.heap HB1.out HNE.out.2, hM, HNE.out⟩); obtain ⟨k0, k1⟩ := (And.intro (cell_of A1.out.b0 0 (v := .pointer (some ⟨p, 0, none⟩)) rfl).1 (cell_of A1.out.b1 1 (v := .int .u64 m.term) rfl).1); obtain ⟨g1, g5⟩ := (And.intro hC.toCL.cells.1.2.1 hC.toCL.cells.1.2.2.2.2.2.1); clear hC hM)
  go_quiet (fail)
  go_wp2
  go_end0
  exact ⟨rfl, CUpd.below HW.out (CUpd.then (A1.out.mod.mono (fun _ _ e => Or.inl e)) (fun _ hk => .inl hk) (A1.out.cat.stay (below_drewN' _ _)))⟩
theorem ok_stamp {c : Co} (h : Ok c) (v : Nat) {m : Mg} (hs : I64 m.stamp) : Ok (c.stampD v m) := by
  unfold Co.stampD
  split
  · refine ⟨h.me, h.term, h.voted, h.log, h.wf, h.commit, h.heard, h.since, h.now, h.timeout, fun k hk => ?_, fun e k hk => ?_⟩
    · unfold Co.setPr; by_cases e : k = v
      · subst e
        obtain ⟨h1, h2⟩ := h.pr k hk
        refine ⟨?_, by simpa using h2⟩
        simp only [if_pos]
        unfold I64 at *
        omega
      · simpa [e] using h.pr k hk
    · unfold Co.setPr; by_cases e2 : k = v
      · subst e2; simpa using h.led e k hk
      · simpa [e2] using h.led e k hk
  · exact h
theorem stamp_out (c : Co) (v : Nat) (m : Mg) : (c.stampD v m).out = c.out ∧ (c.stampD v m).dest = c.dest ∧ (c.stampD v m).log = c.log ∧ (c.stampD v m).me = c.me ∧ (c.stampD v m).now = c.now ∧ (c.stampD v m).commit = c.commit ∧ (c.stampD v m).role = c.role ∧ (c.stampD v m).term = c.term := by
  unfold Co.stampD; split <;> exact ⟨rfl, rfl, rfl, rfl, rfl, rfl, rfl, rfl⟩
theorem mats_le {c : Co} (hp : ∀ q, q < 3 → (c.pr q).mat ≤ c.log.length) : c.mats ≤ c.log.length := by
  have := hp 0 (by omega)
  have := hp 1 (by omega)
  have := hp 2 (by omega)
  unfold Co.mats Co.mid
  dsimp only
  split <;> (try split) <;> omega
theorem tri_own {w : World} {base g cap : Nat} {x y z : Int} (h : OwnL encI 1 3 w base (.slice (some ⟨g, 0, none⟩) 3 cap) [x, y, z]) : Tri w g x y z := by
  have hc := World.ownsRow.cells h (g := g) rfl
  obtain ⟨-, cur, hb⟩ := OwnL.block h (g := g) rfl
  refine ⟨⟨by simpa [Addr.add] using hc 0 (.int .i64 x) rfl, by simpa [Addr.add] using hc 1 (.int .i64 y) rfl, by simpa [Addr.add] using hc 2 (.int .i64 z) rfl⟩, fun i => by simp [World.frozen?, hb]⟩
theorem commits_out (c : Co) : c.commits.out = c.out ∧ c.commits.dest = c.dest ∧ c.commits.log = c.log ∧ c.commits.pr = c.pr := by
  unfold Co.commits; split <;> exact ⟨rfl, rfl, rfl, rfl⟩
theorem ansI_start {W : World} {bx p : Nat} {n : Int} (h : W.heap[bx]? = some (.cells #[.pointer (some ⟨p, 0, none⟩)] 31 (0, 0))) :
    AnsI W (W.heap.size + 1) bx p [n] ((W.alloc (.cells #[.int .i64 n] 3)).alloc (.cells #[.slice (some ⟨W.heap.size, 0, none⟩) 1 1] 60)) := by
  have hb : Below W.heap.size W ((W.alloc (.cells #[.int .i64 n] 3)).alloc (.cells #[.slice (some ⟨W.heap.size, 0, none⟩) 1 1] 60)) := (bel1 W _).trans ((bel1 _ _).mono (by simp))
  refine ⟨hb, ⟨.slice (some ⟨W.heap.size, 0, none⟩) 1 1, heap_alloc2_new W _ _, ?_⟩, keepc' (cell_of h 0 rfl).1 hb⟩
  have h0 : OwnL encI 1 3 (W.alloc (.cells #[.int .i64 n] 3)) W.heap.size (.slice (some ⟨W.heap.size, 0, none⟩) 1 1) [n] := World.ownsRow_lit W #[.int .i64 n] 1 (Nat.le_refl _) (by unfold maxLen; omega) rfl
  exact h0.below (bel1 _ _)
namespace Co
def noN (e : Co) (v : Nat) (m : Mg) : Co := e.setPr v { e.pr v with next := max (e.pr v).mat (min ((e.pr v).next - 1) (max m.mat 0)) + 1 }
def matN (e : Co) (v : Nat) (m : Mg) : Int := max (e.pr v).mat (min m.mat (e.log.length : Int))
def yesN (e : Co) (v : Nat) (m : Mg) : Co := e.setPr v { e.pr v with mat := e.matN v m, next := e.matN v m + 1 }
end Co
end Go.Proofs.Ytcleaamjfjnkkaa
