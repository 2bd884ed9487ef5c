/- The reference's tick, of one that does not lead. -/
import Derived.Test.YtcleaamjfjnkkaaGreatRz2
import Derived.Deep.QuietTactic
import Derived.BigQuiet
namespace Go.Proofs.YtcleaamjfjnkkaaGreat
open Go.RowKit Go.Joins

theorem rsend_len {w : World} {base q : Nat} {lv ov tv : Value} {vt : Nat → Bool} {os : List RM} {ds : List Int} {c : Co} (t : Int) (x : RM) (n : Nat) (hn : x.m.ents.length = n) (h : RAt w base q lv ov tv vt os ds c) (hl : os.length ≤ 100) (hd : ds.length ≤ 100) :
    Calls Tryz.prog 32 #[.pointer (some ⟨q, 0, none⟩), .int .i64 t, .agg #[.int .i64 x.m.kind, .int .u64 x.m.term, .int .i64 x.m.prev, .int .u64 x.m.pterm, .slice x.ea n x.ec, .int .i64 x.m.commit, .bool x.m.yes, .int .i64 x.m.mat, .int .i64 x.m.stamp, .int .u64 0, .int .i64 0, .bool false, .slice none 0 0, .int .i64 0, .int .u64 0, .int .u64 0, .int .u64 0, .int .u64 0, .int .i64 0, .int .u64 0, .int .u64 0, .int .u64 0, .int .u64 0, .int .i64 0, .int .i64 0, .slice none 0 0]] w (Tup0 (RSn base q lv ov tv vt (os ++ [x]) (ds ++ [t]) c w)) := by
  subst hn
  exact rsend_any t x h hl hd
/-- what the reference's call answers. -/
def ROutP (base q : Nat) (lv : Value) (c' : Co) (w : World) (e : Ending) (w' : World) : Prop :=
  ∃ ov' tv' vt' os', e = .returned ov' ∧ RAt w' base q lv ov' tv' vt' os' c'.dest c' ∧ os'.map RM.m = c'.out ∧ (∀ x ∈ os', x.ea = none ∧ x.m.ents = []) ∧ Mod (RF q lv (.slice none 0 0) (.slice none 0 0)) w w' ∧ ∀ k, RF q lv ov' tv' k → RF q lv (.slice none 0 0) (.slice none 0 0) k ∨ w.heap.size ≤ k
theorem quietSame {P : Program} {f : FuncId} {args : Array Value} {w : World} {n : Nat} {b : Bool} (h : Calls P f args (w.drewN n) (SameB b (w.drewN n))) : Calls P f args (w.drewN n) fun e w'' => e = .returned (.bool b) ∧ ∃ m, w'' = w.drewN m := h.mono fun _ _ ⟨he, hm⟩ => ⟨he, n, hm.symm⟩
def askM (c : Co) : Mg := { mg0 1 with term := c.term, prev := (c.log.length : Int), pterm := lastT c.log }
def campC (c : Co) (draw : Int) : Co := { c with term := c.term + 1, voted := c.me, role := 1, head := -1, since := c.now, timeout := timeoutS draw }
theorem camp_is (c : Co) (draw : Int) (h : c.me = 0 ∨ c.me = 1 ∨ c.me = 2) (h1 : c.out = []) (h2 : c.dest = []) :
    (c.campaign draw).out = [askM (campC c draw), askM (campC c draw)] ∧ (c.campaign draw).dest = othL c.me 3 ∧ (∀ vt lv ov tv, rcA (c.campaign draw) vt lv ov tv = rcA (campC c draw) vt lv ov tv) ∧ (c.campaign draw).log = c.log := by
  obtain h0 | h0 | h0 := h
  all_goals
    unfold Co.campaign Co.others Co.one Co.campOne
    simp only [Co.setPr, Co.send, h0]
    refine ⟨by simp [h1, askM, campC], by simp [h2, othL], fun vt lv ov tv => by simp [rcA, campC, h0], by simp⟩
theorem RL.as {w : World} {base q : Nat} {lv ov tv : Value} {vt : Nat → Bool} {c c' : Co} (h : RL w base q lv ov tv vt c) (he : ∀ vt lv ov tv, rcA c' vt lv ov tv = rcA c vt lv ov tv) (hl : c'.log = c.log) : RL w base q lv ov tv vt c' := ⟨by rw [he]; exact h.blk, h.bp, by rw [hl]; exact h.log⟩
section
variable {w : World} {base q : Nat} {lv ov tv : Value} {vt : Nat → Bool} {c : Co}
set_option linter.unusedSimpArgs false in
set_option linter.unusedVariables false in
set_option maxHeartbeats 8000000 in
set_option maxRecDepth 100000 in
theorem rtick_a (clock draw : Int) (h : RL w base q lv ov tv vt c) (hr : c.role ≠ 2) (hs : I64 c.since) (hh : I64 c.heard) (ht : 0 ≤ c.timeout ∧ c.timeout ≤ 100) (hg : laterB clock c.since c.timeout = false) :
    Calls Tryz.prog 8 #[.pointer (some ⟨q, 0, none⟩), .int .i64 clock, .int .i64 draw] w (ROutP base q lv (c.begin clock) w) := by
  have mixed : Tryz.prog.follows .mixedOrders = true := by kernel_rfl
  have HB := Lib.hid (rbegin_any clock h)
  have hrb : (c.role == 2) = false := by simpa using hr
  have HLA := Lib.hid (fun W => rlater_any clock c.since c.timeout W ht.1 ht.2 hs)
  have HWA := Lib.hid (fun W => rwaits_any c.heard clock W hh.1)
  rw [hg] at HLA
  clear hg
  clear h hs hh ht hr
  go_enter Tryz.func8, Tryz.ntmps8
  go_upto_region 2 with (go_at_call 27; refine HB.out.mono ?_; rintro e w1 ⟨rfl, hA, hM⟩; have A1 := Lib.hid hA; have M1 := Lib.hid hM; clear hA hM)
  obtain ⟨⟨-, g1, -, -, -, g5, -, g7, g8, g9, -, -, -⟩, -⟩ := A1.out.toRL.cells
  have e1 : (c.begin clock).term = c.term := rfl
  have e5 : (c.begin clock).role = c.role := rfl
  have e7 : (c.begin clock).heard = c.heard := rfl
  have e8 : (c.begin clock).since = c.since := rfl
  have e9 : (c.begin clock).timeout = c.timeout := rfl
  rw [e1] at g1
  rw [e5] at g5
  rw [e7] at g7
  rw [e8] at g8
  rw [e9] at g9
  clear e1 e5 e7 e8 e9
  go_upto_region 10 with fail
  go_quiet ((first | (go_at_call 29; exact quietSame (HLA.out _)) | (go_at_call 31; exact quietSame (HWA.out _))))
  go_wp2
  go_ret
  exact ⟨.slice none 0 0, .slice none 0 0, vt, [], rfl, A1.out.below (below_drewN' w1 nq), rfl, (fun x hx => by cases hx), (M1.out.mono (fun _ _ e => .inl e)).trans (Mod.bel (below_drewN' w1 nq)), fun k hk => .inl hk⟩
set_option linter.unusedSimpArgs false in
set_option linter.unusedVariables false in
set_option maxHeartbeats 8000000 in
set_option maxRecDepth 100000 in
theorem rtick_b (clock draw : Int) (h : RL w base q lv ov tv vt c) (hr : c.role ≠ 2) (hs : I64 c.since) (hh : I64 c.heard) (ht : 0 ≤ c.timeout ∧ c.timeout ≤ 100) (hg : laterB clock c.since c.timeout = true) (hw : waitsS c.heard clock = true) :
    Calls Tryz.prog 8 #[.pointer (some ⟨q, 0, none⟩), .int .i64 clock, .int .i64 draw] w (ROutP base q lv (c.begin clock) w) := by
  have mixed : Tryz.prog.follows .mixedOrders = true := by kernel_rfl
  have HB := Lib.hid (rbegin_any clock h)
  have hrb : (c.role == 2) = false := by simpa using hr
  have HLA := Lib.hid (fun W => rlater_any clock c.since c.timeout W ht.1 ht.2 hs)
  have HWA := Lib.hid (fun W => rwaits_any c.heard clock W hh.1)
  rw [hg] at HLA
  rw [hw] at HWA
  clear hg hw
  clear h hs hh ht hr
  go_enter Tryz.func8, Tryz.ntmps8
  go_upto_region 2 with (go_at_call 27; refine HB.out.mono ?_; rintro e w1 ⟨rfl, hA, hM⟩; have A1 := Lib.hid hA; have M1 := Lib.hid hM; clear hA hM)
  obtain ⟨⟨-, g1, -, -, -, g5, -, g7, g8, g9, -, -, -⟩, -⟩ := A1.out.toRL.cells
  have e1 : (c.begin clock).term = c.term := rfl
  have e5 : (c.begin clock).role = c.role := rfl
  have e7 : (c.begin clock).heard = c.heard := rfl
  have e8 : (c.begin clock).since = c.since := rfl
  have e9 : (c.begin clock).timeout = c.timeout := rfl
  rw [e1] at g1
  rw [e5] at g5
  rw [e7] at g7
  rw [e8] at g8
  rw [e9] at g9
  clear e1 e5 e7 e8 e9
  go_upto_region 10 with fail
  go_quiet ((first | (go_at_call 29; exact quietSame (HLA.out _)) | (go_at_call 31; exact quietSame (HWA.out _))))
  go_wp2
  go_ret
  exact ⟨.slice none 0 0, .slice none 0 0, vt, [], rfl, A1.out.below (below_drewN' w1 nq), rfl, (fun x hx => by cases hx), (M1.out.mono (fun _ _ e => .inl e)).trans (Mod.bel (below_drewN' w1 nq)), fun k hk => .inl hk⟩
set_option linter.unusedSimpArgs false in
set_option linter.unusedVariables false in
set_option maxHeartbeats 8000000 in
set_option maxRecDepth 100000 in
theorem rtick_c (clock draw : Int) (h : RL w base q lv ov tv vt c) (hr : c.role ≠ 2) (hs : I64 c.since) (hh : I64 c.heard) (ht : 0 ≤ c.timeout ∧ c.timeout ≤ 100) (hg : laterB clock c.since c.timeout = true) (hw : waitsS c.heard clock = false) (hm : c.term = 18446744073709551615) :
    Calls Tryz.prog 8 #[.pointer (some ⟨q, 0, none⟩), .int .i64 clock, .int .i64 draw] w (ROutP base q lv (c.begin clock) w) := by
  have mixed : Tryz.prog.follows .mixedOrders = true := by kernel_rfl
  have HB := Lib.hid (rbegin_any clock h)
  have hrb : (c.role == 2) = false := by simpa using hr
  have HLA := Lib.hid (fun W => rlater_any clock c.since c.timeout W ht.1 ht.2 hs)
  have HWA := Lib.hid (fun W => rwaits_any c.heard clock W hh.1)
  rw [hg] at HLA
  rw [hw] at HWA
  have hmb : (c.term == 18446744073709551615) = true := by simpa using hm
  clear hg hw hm
  clear h hs hh ht hr
  go_enter Tryz.func8, Tryz.ntmps8
  go_upto_region 2 with (go_at_call 27; refine HB.out.mono ?_; rintro e w1 ⟨rfl, hA, hM⟩; have A1 := Lib.hid hA; have M1 := Lib.hid hM; clear hA hM)
  obtain ⟨⟨-, g1, -, -, -, g5, -, g7, g8, g9, -, -, -⟩, -⟩ := A1.out.toRL.cells
  have e1 : (c.begin clock).term = c.term := rfl
  have e5 : (c.begin clock).role = c.role := rfl
  have e7 : (c.begin clock).heard = c.heard := rfl
  have e8 : (c.begin clock).since = c.since := rfl
  have e9 : (c.begin clock).timeout = c.timeout := rfl
  rw [e1] at g1
  rw [e5] at g5
  rw [e7] at g7
  rw [e8] at g8
  rw [e9] at g9
  clear e1 e5 e7 e8 e9
  go_upto_region 10 with fail
  go_quiet ((first | (go_at_call 29; exact quietSame (HLA.out _)) | (go_at_call 31; exact quietSame (HWA.out _))))
  go_wp2
  go_ret
  exact ⟨.slice none 0 0, .slice none 0 0, vt, [], rfl, A1.out.below (below_drewN' w1 nq), rfl, (fun x hx => by cases hx), (M1.out.mono (fun _ _ e => .inl e)).trans (Mod.bel (below_drewN' w1 nq)), fun k hk => .inl hk⟩
end
theorem camp_arr (c : Co) (vt : Nat → Bool) (lv ov tv : Value) (v draw : Int) (h : c.me = v) :
    ((((((((((rcA c vt lv ov tv).setIfInBounds 1 (.int .u64 (c.term + 1))).setIfInBounds 2 (.int .i64 v)).setIfInBounds 5 (.int .i64 1)).setIfInBounds 6 (.int .i64 (-1))).setIfInBounds 8 (.int .i64 c.now)).setIfInBounds 9 (.int .i64 (timeoutS draw))).setIfInBounds 10 (.bool false)).setIfInBounds 11 (.bool false)).setIfInBounds 12 (.bool false)) = rcA (campC c draw) (fun _ => false) lv ov tv := by
  subst h
  simp only [rcA, campC, s1, s2, s3]
theorem two_get (ea eb : Int) {i : Nat} (h : i < 2) : (flatOf encI [ea, eb])[i]? = some (.int .i64 ([ea, eb].getD i 0)) := by
  obtain rfl | rfl : i = 0 ∨ i = 1 := by omega
  all_goals rfl
theorem two_take (ea eb : Int) {i : Nat} (h : i < 2) : [ea, eb].take (i + 1) = [ea, eb].take i ++ [[ea, eb].getD i 0] := by
  obtain rfl | rfl : i = 0 ∨ i = 1 := by omega
  all_goals rfl
theorem vote_at (c : Co) (lv ov tv : Value) {n : Nat} (h : n < 3) : (rcA c (fun _ => false) lv ov tv)[10 + n]? = some (.bool false) := by
  obtain rfl | rfl | rfl : n = 0 ∨ n = 1 ∨ n = 2 := by omega
  all_goals rfl
theorem vote_arr (c : Co) (lv ov tv : Value) {n : Nat} (h : n < 3) : (rcA c (fun _ => false) lv ov tv).setIfInBounds (10 + n) (.bool true) = rcA c (fun k => decide (k = n)) lv ov tv := by
  obtain rfl | rfl | rfl : n = 0 ∨ n = 1 ∨ n = 2 := by omega
  all_goals rfl
theorem oth_two {n : Nat} (h : n < 3) : ∃ ea eb, othL (n : Int) 3 = [ea, eb] := by
  obtain rfl | rfl | rfl : n = 0 ∨ n = 1 ∨ n = 2 := by omega
  · exact ⟨1, 2, rfl⟩
  · exact ⟨0, 2, rfl⟩
  · exact ⟨0, 1, rfl⟩
theorem own_slx {w : World} {base n c : Nat} {a : Option Addr} {es : List Ent} (h : OwnE w base (.slice a n c) es) : Sl w a c es := by
  obtain ⟨a', c', e, hs, -⟩ := own_sl h
  simp at e
  obtain ⟨rfl, -, rfl⟩ := e
  exact hs
def Cel0 (q v : Nat) (w : World) : Prop := w.cell? ⟨q, 0, none⟩ = some (.int .i64 (v : Int)) ∧ w.cell? ⟨q, 10 + v, none⟩ = some (.bool false)
def BelS (w w' : World) : Prop := Below w.heap.size w w'
set_option linter.unusedSimpArgs false in
set_option linter.unusedVariables false in
set_option maxHeartbeats 8000000 in
set_option maxRecDepth 100000 in
theorem rtick_d {w : World} {base q : Nat} {lv ov tv : Value} {vt : Nat → Bool} {c : Co} (clock draw : Int) (hdr : I64 draw) (h0 : RL w base q lv ov tv vt c) (n : Nat) (hn3 : n < 3) (hme : c.me = (n : Int)) (hlen : c.log.length ≤ 1000) (hr : c.role ≠ 2) (hs : I64 c.since) (hh : I64 c.heard) (ht : 0 ≤ c.timeout ∧ c.timeout ≤ 100) (hg : laterB clock c.since c.timeout = true) (hw : waitsS c.heard clock = false) (hm0 : 0 ≤ c.term) (hm : c.term < 18446744073709551615) :
    Calls Tryz.prog 8 #[.pointer (some ⟨q, 0, none⟩), .int .i64 clock, .int .i64 draw] w (ROutP base q lv ((c.begin clock).campaign draw) w) := by
  have mixed : Tryz.prog.follows .mixedOrders = true := by kernel_rfl
  have h := h0
  obtain ⟨la, lc, hlv, -, -⟩ := own_sl h.log
  subst hlv
  clear h0
  have HB := Lib.hid (rbegin_any clock h)
  have hrb : (c.role == 2) = false := by simpa using hr
  have HLA := Lib.hid (fun W => rlater_any clock c.since c.timeout W ht.1 ht.2 hs)
  have HWA := Lib.hid (fun W => rwaits_any c.heard clock W hh.1)
  have HTO := Lib.hid (fun W => rtimeout_any draw W hdr.1 hdr.2)
  have HCI := Lib.hid (camp_is (c.begin clock) draw (by show c.me = 0 ∨ c.me = 1 ∨ c.me = 2; omega) rfl rfl)
  rw [hg] at HLA
  rw [hw] at HWA
  have hmb : (c.term == 18446744073709551615) = false := by have : c.term ≠ 18446744073709551615 := by omega
                                                            simpa using this
  have hwt : IntKind.u64.wrap (c.term + 1) = c.term + 1 := by simp [IntKind.wrap, IntKind.signed, IntKind.bits]; omega
  have hnI : (n : Int) < 3 := by omega
  have HLN := Lib.hid hlen
  have HME := Lib.hid hme
  clear hg hw hs hh ht hr hm0 hm hlen hdr hme
  go_enter Tryz.func8, Tryz.ntmps8
  go_upto_region 2 with (go_at_call 27; refine HB.out.mono ?_; rintro e w1 ⟨rfl, hA, hM⟩; have A1 := Lib.hid hA; have M1 := Lib.hid hM; clear hA hM)
  clear h HB
  obtain ⟨⟨-, g1, -, -, -, g5, -, g7, g8, g9, -, -, -⟩, -⟩ := A1.out.toRL.cells
  have e1 : (c.begin clock).term = c.term := rfl
  have e5 : (c.begin clock).role = c.role := rfl
  have e7 : (c.begin clock).heard = c.heard := rfl
  have e8 : (c.begin clock).since = c.since := rfl
  have e9 : (c.begin clock).timeout = c.timeout := rfl
  rw [e1] at g1
  rw [e5] at g5
  rw [e7] at g7
  rw [e8] at g8
  rw [e9] at g9
  clear e1 e5 e7 e8 e9
  go_upto_region 10 with fail
  go_quiet ((first | (go_at_call 29; exact quietSame (HLA.out _)) | (go_at_call 31; exact quietSame (HWA.out _))))
  clear g1 g5 g7 g8 g9 HLA HWA
  have A2 := Lib.hid (A1.out.below (below_drewN' w1 nq))
  have M2 := Lib.hid (M1.out.trans (Mod.bel (below_drewN' w1 nq)))
  clear A1 M1
  generalize w1.drewN nq = Y at *
  obtain ⟨⟨g0, g1, g2, -, -, g5, g6, -, g8, g9, -, -, -⟩, gf⟩ := A2.out.toRL.cells
  have e0 : (c.begin clock).me = (n : Int) := HME.out
  have e1 : (c.begin clock).term = c.term := rfl
  rw [e0] at g0
  rw [e1] at g1
  have g10 := (cell_of A2.out.blk 10 rfl).1
  have g11 := (cell_of A2.out.blk 11 rfl).1
  have g12 := (cell_of A2.out.blk 12 rfl).1
  have f1 := gf 1
  have f2 := gf 2
  have f5 := gf 5
  have f6 := gf 6
  have f8 := gf 8
  have f9 := gf 9
  have f10 := gf 10
  have f11 := gf 11
  have f12 := gf 12
  clear gf e0 e1
  go_upto_region 19 with (go_at_call 17; refine (HTO.out _).mono ?_; rintro e w3 ⟨rfl, rfl⟩)
  have A3 := Lib.hid (show RAt (((((((((Y.setCell ⟨q, 1, none⟩ (.int .u64 (c.term + 1))).setCell ⟨q, 2, none⟩ (.int .i64 (n : Int))).setCell ⟨q, 5, none⟩ (.int .i64 1)).setCell ⟨q, 6, none⟩ (.int .i64 (-1))).setCell ⟨q, 8, none⟩ (.int .i64 clock)).setCell ⟨q, 9, none⟩ (.int .i64 (timeoutS draw))).setCell ⟨q, 10, none⟩ (.bool false)).setCell ⟨q, 11, none⟩ (.bool false)).setCell ⟨q, 12, none⟩ (.bool false)) base q (.slice la c.log.length lc) (.slice none 0 0) (.slice none 0 0) (fun _ => false) [] [] (campC (c.begin clock) draw) from A2.out.put (by rw [setCell_blk (setCell_blk (setCell_blk (setCell_blk (setCell_blk (setCell_blk (setCell_blk (setCell_blk (setCell_blk A2.out.blk))))))))]; exact congrArg (fun a => some (Obj.cells a 53 (0, 0))) (camp_arr (c.begin clock) vt _ _ _ _ draw HME.out)) (((((((((Mod.cellOf q 1 _).trans (Mod.cellOf q 2 _)).trans (Mod.cellOf q 5 _)).trans (Mod.cellOf q 6 _)).trans (Mod.cellOf q 8 _)).trans (Mod.cellOf q 9 _)).trans (Mod.cellOf q 10 _)).trans (Mod.cellOf q 11 _)).trans (Mod.cellOf q 12 _)) rfl)
  have M3 := Lib.hid (M2.out.trans (show Mod (fun k => k = q) Y (((((((((Y.setCell ⟨q, 1, none⟩ (.int .u64 (c.term + 1))).setCell ⟨q, 2, none⟩ (.int .i64 (n : Int))).setCell ⟨q, 5, none⟩ (.int .i64 1)).setCell ⟨q, 6, none⟩ (.int .i64 (-1))).setCell ⟨q, 8, none⟩ (.int .i64 clock)).setCell ⟨q, 9, none⟩ (.int .i64 (timeoutS draw))).setCell ⟨q, 10, none⟩ (.bool false)).setCell ⟨q, 11, none⟩ (.bool false)).setCell ⟨q, 12, none⟩ (.bool false)) from (((((((((Mod.cellOf q 1 _).trans (Mod.cellOf q 2 _)).trans (Mod.cellOf q 5 _)).trans (Mod.cellOf q 6 _)).trans (Mod.cellOf q 8 _)).trans (Mod.cellOf q 9 _)).trans (Mod.cellOf q 10 _)).trans (Mod.cellOf q 11 _)).trans (Mod.cellOf q 12 _))))
  clear A2 M2 g0 g1 g2 g5 g6 g8 g9 g10 g11 g12 f1 f2 f5 f6 f8 f9 f10 f11 f12
  generalize (((((((((Y.setCell ⟨q, 1, none⟩ (.int .u64 (c.term + 1))).setCell ⟨q, 2, none⟩ (.int .i64 (n : Int))).setCell ⟨q, 5, none⟩ (.int .i64 1)).setCell ⟨q, 6, none⟩ (.int .i64 (-1))).setCell ⟨q, 8, none⟩ (.int .i64 clock)).setCell ⟨q, 9, none⟩ (.int .i64 (timeoutS draw))).setCell ⟨q, 10, none⟩ (.bool false)).setCell ⟨q, 11, none⟩ (.bool false)).setCell ⟨q, 12, none⟩ (.bool false)) = Z1 at *
  obtain ⟨⟨g0, -⟩, gf⟩ := A3.out.toRL.cells
  have e0 : (campC (c.begin clock) draw).me = (n : Int) := HME.out
  rw [e0] at g0
  have gv := (cell_of A3.out.blk (10 + n) (v := .bool false) (vote_at _ _ _ _ hn3)).1
  have fv := gf (10 + n)
  clear gf e0
  refine wp_region_noPanic ?_
  refine wp_region_lim (Cel0 q n) (fun i => decide (i < 8)) (fun i => false) (by kernel_rfl) (by kernel_rfl) ⟨keepc' g0 (Below.refl _ _).drew, keepc' gv (Below.refl _ _).drew⟩ (fun HT hS0 => ?_)
  refine tkD HT 0 122 (v := ?_) ?_ ?_
  rotate_left
  · (intro w5 hSw; obtain ⟨q1, q2⟩ := hSw; go_simp; (try with_reducible rfl))
  try simp only [s1, s2, s3]
  refine tkD HT 1 123 (v := ?_) ?_ ?_
  rotate_left
  · (intro w5 hSw; obtain ⟨q1, q2⟩ := hSw; go_simp; (try with_reducible rfl))
  try simp only [s1, s2, s3]
  refine tkD HT 2 124 (v := ?_) ?_ ?_
  rotate_left
  · (intro w5 hSw; obtain ⟨q1, q2⟩ := hSw; go_simp; (try with_reducible rfl))
  try simp only [s1, s2, s3]
  refine tkD HT 3 125 (v := ?_) ?_ ?_
  rotate_left
  · (intro w5 hSw; obtain ⟨q1, q2⟩ := hSw; go_simp; (try with_reducible rfl))
  try simp only [s1, s2, s3]
  refine tkD HT 4 126 (v := ?_) ?_ ?_
  rotate_left
  · (intro w5 hSw; obtain ⟨q1, q2⟩ := hSw; go_simp; (try with_reducible rfl))
  try simp only [s1, s2, s3]
  refine tkD HT 5 127 (v := ?_) ?_ ?_
  rotate_left
  · (intro w5 hSw; obtain ⟨q1, q2⟩ := hSw; go_simp; (try with_reducible rfl))
  try simp only [s1, s2, s3]
  refine tkD HT 6 128 (v := ?_) ?_ ?_
  rotate_left
  · (intro w5 hSw; obtain ⟨q1, q2⟩ := hSw; go_simp; (try with_reducible rfl))
  try simp only [s1, s2, s3]
  refine tkD HT 7 129 (v := ?_) ?_ ?_
  rotate_left
  · (intro w5 hSw; obtain ⟨q1, q2⟩ := hSw; go_simp; (try with_reducible rfl))
  try simp only [s1, s2, s3]
  refine tkL 8 (fun K5 hK => ?_)
  go_simp
  refine hK.out _ _ ?_
  clear hK K5
  try simp only [Act.put, s1, s2, s3]
  refine wpAnyM_done (by kernel_rfl) (NoPanic.normal ?_)
  have A4 := Lib.hid (show RAt (World.drew (Z1.setCell ⟨q, 10 + n, none⟩ (.bool true))) base q (.slice la c.log.length lc) (.slice none 0 0) (.slice none 0 0) (fun k => decide (k = n)) [] [] (campC (c.begin clock) draw) from (A3.out.put (c' := campC (c.begin clock) draw) (vt' := fun k => decide (k = n)) (by rw [setCell_blk A3.out.blk, vote_arr _ _ _ _ hn3]) (Mod.cellOf q (10 + n) _) rfl).below (Below.refl _ _).drew)
  have M4 := Lib.hid (M3.out.trans ((Mod.cellOf q (10 + n) (.bool true)).trans (Mod.bel (Below.refl _ (Z1.setCell ⟨q, 10 + n, none⟩ (.bool true))).drew)))
  clear A3 M3 g0 gv fv HT hS0
  go_upto_region 20 with fail
  generalize World.drew (Z1.setCell ⟨q, 10 + n, none⟩ (.bool true)) = Z at *
  have HOT := Lib.hid (rothers_any A4.out.toRL)
  obtain ⟨ea, eb, heab⟩ := oth_two hn3
  rw [show othL (campC (c.begin clock) draw).me 3 = [ea, eb] by rw [show (campC (c.begin clock) draw).me = (n : Int) from HME.out]; exact heab] at HOT
  have HEAB := Lib.hid heab
  clear heab
  go_wp2_with (go_at_call 28; refine HOT.out.mono ?_; rintro e wo ⟨sv, rfl, ho, hb⟩; obtain ⟨g, cap, hv, hg1, hg2⟩ := ho.form (by simp); obtain rfl : sv = .slice (some ⟨g, 0, none⟩) 2 cap := hv; have HO := Lib.hid ho; have HB5 := Lib.hid hb; have HG := Lib.hid (And.intro hg1 hg2); clear ho hb hg1 hg2)
  have HK : Hid (∀ i, i < 2 → wo.cell? ⟨g, i, none⟩ = some (.int .i64 ([ea, eb].getD i 0))) := by
    show ∀ i, i < 2 → _
    intro i hi
    have := HO.out.cells (g := g) rfl i (.int .i64 ([ea, eb].getD i 0)) (two_get ea eb hi)
    rwa [Go.WideShapes.add_plain, Nat.zero_add] at this
  have HGN := Lib.hid (show ¬ RF q (.slice la c.log.length lc) (.slice none 0 0) (.slice none 0 0) g from fun hk => by have := (A4.out.lt g hk).2; have := HG.out.1; omega)
  have A5 := Lib.hid (A4.out.below HB5.out)
  have M5 := Lib.hid ((M4.out.mono (fun _ _ e => .inl e)).trans (Mod.bel HB5.out) : Mod (RF q (.slice la c.log.length lc) (.slice none 0 0) (.slice none 0 0)) w wo)
  clear A4 M4
  have HLS := Lib.hid (fun W ov tv (hw : RL W base q (.slice la c.log.length lc) ov tv (fun k => decide (k = n)) (campC (c.begin clock) draw)) => rlast_len la lc c.log.length c.log rfl W (own_slx hw.log).ents (by have := HLN.out; unfold maxLen; omega))
  go_loopg [133] 2 (fun gk u133 wr => ∃ i : Nat, i + gk = 2 ∧ u133 = .int .i64 (i : Int) ∧ RSn base q (.slice la c.log.length lc) (.slice none 0 0) (.slice none 0 0) (fun k => decide (k = n)) (List.replicate i ⟨none, 0, askM (campC (c.begin clock) draw)⟩) ([ea, eb].take i) (campC (c.begin clock) draw) wo wr)
  case atStart => exact ⟨0, by omega, rfl, _, _, A5.out, Mod.refl _ _, fun _ hk => .inl hk⟩
  case round =>
    obtain ⟨i, hik, rfl, hU⟩ := hrel
    obtain ⟨ov1, tv1, hA, hM, hF⟩ := hU
    have HR1 := Lib.hid hA
    have HM1 := Lib.hid hM
    have HF1 := Lib.hid hF
    clear hA hM hF
    by_cases hlt : i < 2
    · have k0 := HM1.out.cell (HK.out i hlt) HGN.out
      have HTK := Lib.hid (show [ea, eb].take (i + 1) = [ea, eb].take i ++ [[ea, eb].getD i 0] from two_take ea eb hlt)
      have hi0 : (i : Int) < 2 := by omega
      generalize [ea, eb].getD i 0 = el at *
      go_upto_region 23 with fail
      refine wp_region_noPanic ?_
      refine wp_region_lim (BelS wr) (fun i => decide (i < 20)) (fun i => false) (by kernel_rfl) (by kernel_rfl) (Below.refl _ wr).drew (fun HT hS0 => ?_)
      refine tkD HT 0 137 (v := ?_) ?_ ?_
      rotate_left
      · (intro w5 hSw; go_simp; (try with_reducible rfl))
      try simp only [s1, s2, s3]
      refine tkD HT 1 138 (v := ?_) ?_ ?_
      rotate_left
      · (intro w5 hSw; go_simp; (try with_reducible rfl))
      try simp only [s1, s2, s3]
      refine tkD HT 2 139 (v := ?_) ?_ ?_
      rotate_left
      · (intro w5 hSw; go_simp; (try with_reducible rfl))
      try simp only [s1, s2, s3]
      refine tkD HT 3 140 (v := ?_) ?_ ?_
      rotate_left
      · (intro w5 hSw; go_simp; (try with_reducible rfl))
      try simp only [s1, s2, s3]
      refine tkD HT 4 141 (v := ?_) ?_ ?_
      rotate_left
      · (intro w5 hSw; go_simp; (try with_reducible rfl))
      try simp only [s1, s2, s3]
      refine tkD HT 5 142 (v := ?_) ?_ ?_
      rotate_left
      · (intro w5 hSw; go_simp; (try with_reducible rfl))
      try simp only [s1, s2, s3]
      refine tkD HT 6 143 (v := ?_) ?_ ?_
      rotate_left
      · (intro w5 hSw; obtain ⟨⟨-, q1, -, q3, -, -, -, -, -, -, -, -, -⟩, -⟩ := (HR1.out.toRL.below hSw).cells; have q1' : w5.cell? ⟨q, 1, none⟩ = some (.int .u64 (c.term + 1)) := q1; clear q1; go_simp; (try with_reducible rfl))
      try simp only [s1, s2, s3]
      refine tkD HT 7 144 (v := ?_) ?_ ?_
      rotate_left
      · (intro w5 hSw; go_simp; (try with_reducible rfl))
      try simp only [s1, s2, s3]
      refine tkD HT 8 145 (v := ?_) ?_ ?_
      rotate_left
      · (intro w5 hSw; go_simp; (try with_reducible rfl))
      try simp only [s1, s2, s3]
      refine tkD HT 9 146 (v := ?_) ?_ ?_
      rotate_left
      · (intro w5 hSw; go_simp; (try with_reducible rfl))
      try simp only [s1, s2, s3]
      refine tkD HT 10 147 (v := ?_) ?_ ?_
      rotate_left
      · (intro w5 hSw; go_simp; (try with_reducible rfl))
      try simp only [s1, s2, s3]
      refine tkD HT 11 148 (v := ?_) ?_ ?_
      rotate_left
      · (intro w5 hSw; obtain ⟨⟨-, q1, -, q3, -, -, -, -, -, -, -, -, -⟩, -⟩ := (HR1.out.toRL.below hSw).cells; have q1' : w5.cell? ⟨q, 1, none⟩ = some (.int .u64 (c.term + 1)) := q1; clear q1; go_simp; (try with_reducible rfl))
      try simp only [s1, s2, s3]
      refine tkD HT 12 149 (v := ?_) ?_ ?_
      rotate_left
      · (intro w5 hSw; go_simp; (try with_reducible rfl))
      try simp only [s1, s2, s3]
      refine tkD HT 13 150 (v := ?_) ?_ ?_
      rotate_left
      · (intro w5 hSw; go_simp; (try with_reducible rfl))
      try simp only [s1, s2, s3]
      refine tkD HT 14 151 (v := ?_) ?_ ?_
      rotate_left
      · (intro w5 hSw; go_simp; (try with_reducible rfl))
      try simp only [s1, s2, s3]
      refine tkD HT 15 152 (v := ?_) ?_ ?_
      rotate_left
      · (intro w5 hSw; go_simp; (try with_reducible rfl))
      try simp only [s1, s2, s3]
      refine tkD HT 16 153 (v := ?_) ?_ ?_
      rotate_left
      · (intro w5 hSw; go_simp; (try with_reducible rfl))
      try simp only [s1, s2, s3]
      refine tkD HT 17 154 (v := ?_) ?_ ?_
      rotate_left
      · (intro w5 hSw; obtain ⟨⟨-, q1, -, q3, -, -, -, -, -, -, -, -, -⟩, -⟩ := (HR1.out.toRL.below hSw).cells; have q1' : w5.cell? ⟨q, 1, none⟩ = some (.int .u64 (c.term + 1)) := q1; clear q1; go_simp; (try with_reducible rfl))
      try simp only [s1, s2, s3]
      refine tkS 18 (fun K5 hK => ?_)
      go_simp
      go_at_call 16
      refine (HLS.out _ _ _ (HR1.out.toRL.below (Below.refl _ wr).drew)).mono ?_
      rintro e w6 ⟨rfl, rfl⟩
      dsimp only
      refine hK.out _ _ (Below.refl _ wr).drew (fun hS1 => ?_)
      clear hK K5
      try simp only [Act.put, s1, s2, s3]
      refine tkD HT 19 156 (v := ?_) ?_ ?_
      rotate_left
      · (intro w5 hSw; go_simp; (try with_reducible rfl))
      try simp only [s1, s2, s3]
      refine tkL 20 (fun K5 hK => ?_)
      go_simp
      go_at_call 32
      refine (rsend_len el ⟨none, 0, askM (campC (c.begin clock) draw)⟩ 0 rfl (HR1.out.below (Below.refl _ wr).drew) (by simp; omega) (by simp; omega)).mono ?_
      rintro e w7 ⟨rfl, hU7⟩
      have HU7 := Lib.hid hU7
      clear hU7
      dsimp only
      refine hK.out _ _ ?_
      clear hK K5
      try simp only [Act.put, s1, s2, s3]
      refine wpAnyM_done (by kernel_rfl) (NoPanic.normal ?_)
      go_wp2
      go_roundg (gk - 1)
      case measure => omega
      case rel => exact ⟨i + 1, by omega, by simp, by rw [HTK.out, List.replicate_succ']; exact RSn.then HM1.out HF1.out (RSn.then (Mod.bel (Below.refl _ wr).drew) (fun k hk => .inl hk) HU7.out)⟩
    · obtain rfl : i = 2 := by omega
      have g29 := HR1.out.toRL.cells.1.2.2.2.2.2.2.2.2.2.2.2.1
      go_wp2
      go_ret
      refine ⟨ov1, tv1, _, _, rfl, { HR1.out.toRL.as HCI.out.2.2.1 HCI.out.2.2.2 with out := HR1.out.out, dst := ?_ }, ?_, ?_, M5.out.then HM1.out (fun i hi hc => ?_), fun k hk => ?_⟩
      · rw [HCI.out.2.1, show (c.begin clock).me = (n : Int) from HME.out, HEAB.out]; exact HR1.out.dst
      · rw [HCI.out.1]; rfl
      · intro x hx; obtain rfl := (List.mem_replicate.1 hx).2; exact ⟨rfl, rfl⟩
      · exact hc
      · exact (HF1.out k hk).imp id (fun e => Nat.le_trans M5.out.size e)
theorem rtick_any {w : World} {base q : Nat} {lv ov tv : Value} {vt : Nat → Bool} {c : Co} (clock draw : Int) (hdr : I64 draw) (h : RL w base q lv ov tv vt c) (ok : Ok c) (hr : c.role ≠ 2) :
    Calls Tryz.prog 8 #[.pointer (some ⟨q, 0, none⟩), .int .i64 clock, .int .i64 draw] w (ROutP base q lv (c.tick clock draw) w) := by
  have ht : 0 ≤ c.timeout ∧ c.timeout ≤ 100 := by have := ok.timeout; omega
  have hT : c.tick clock draw = if (laterB clock c.since c.timeout && !waitsS c.heard clock && decide (c.term < 18446744073709551615)) = true then (c.begin clock).campaign draw else c.begin clock := by
    unfold Co.tick
    simp only
    rw [if_neg (show ¬ (c.begin clock).role = 2 from hr)]
    rfl
  rw [hT]
  by_cases a : laterB clock c.since c.timeout = true
  · by_cases b : waitsS c.heard clock = true
    · rw [a, b]; exact rtick_b clock draw h hr ok.since ok.heard ht a b
    · have b' : waitsS c.heard clock = false := by simpa using b
      by_cases d : c.term < 18446744073709551615
      · rw [a, b', decide_eq_true d, if_pos (by rfl)]
        have hlen : c.log.length ≤ 1000 := by have := ok.log; omega
        exact rtick_d clock draw hdr h c.me.toNat (by have := ok.me; omega) (by have := ok.me; omega) hlen hr ok.since ok.heard ht a b' ok.term.1 d
      · rw [a, b', decide_eq_false d, if_neg (by decide)]
        exact rtick_c clock draw h hr ok.since ok.heard ht a b' (by have := ok.term.2; omega)
  · have a' : laterB clock c.since c.timeout = false := by simpa using a
    rw [a', if_neg (by simp)]; exact rtick_a clock draw h hr ok.since ok.heard ht a'
end Go.Proofs.YtcleaamjfjnkkaaGreat
