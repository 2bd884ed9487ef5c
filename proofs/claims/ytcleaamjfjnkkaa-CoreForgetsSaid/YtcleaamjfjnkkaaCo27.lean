/- Whom messages go to; what is proposed; the line. -/
import Derived.Test.YtcleaamjfjnkkaaCo26
namespace Go.Proofs.Ytcleaamjfjnkkaa
open Go.RowKit Go.Joins

/-- an owned row of ints. -/
def IntsP (xs : List Int) (w : World) (e : Ending) (w' : World) : Prop := ∃ v, e = .returned v ∧ OwnL encI 1 3 w' w.heap.size v xs ∧ Below w.heap.size w w'
set_option linter.unusedSimpArgs false in
set_option linter.unusedVariables false in
set_option maxHeartbeats 8000000 in
set_option maxRecDepth 100000 in
theorem cloneI_any (a : Option Addr) (cap n : Nat) (xs : List Int) (hn : xs.length = n) (w : World) (h : Sli encI 1 w a cap xs) (hb : n ≤ 1000) :
    Calls Try.prog 53 #[.slice a n cap] w (IntsP xs w) := by
  subst hn
  have qT : ∀ (w : World) (a : Option Addr) (n c : Nat), (binOp .eql 60 (.slice a n c) (.slice none 0 0)).run Try.prog w = .ok (.bool a.isNone) w := fun w a n c => Lib.run_eql_slice_nil w 60 3 a n c 0 0 Try.underlying60
  cases a with
  | none =>
    have h0 := h.nil0 rfl
    have h1 := h.len
    obtain rfl : xs = [] := List.eq_nil_of_length_eq_zero (by omega)
    subst h0
    go_enter Try.func53, Try.ntmps53
    go_wp2
    go_ret
    exact ⟨_, rfl, ownL_nil _ _, Below.refl _ _⟩
  | some ad =>
    have HS := Lib.hid h
    clear h
    have hown0 : Hid (OwnL encI 1 3 (w.alloc (.cells #[] 3)) w.heap.size (.slice (some ⟨w.heap.size, 0, none⟩) 0 0) ([] : List Int)) := World.ownsRow_made w #[] 0 (Nat.le_refl _) (Nat.zero_le _) rfl
    have hE1 : Hid (Lst encI 1 (w.alloc (.cells #[] 3)) (some ad) xs) := HS.out.lst.below ((Below.refl _ w).alloc (Nat.le_refl _) _)
    go_enter Try.func53, Try.ntmps53
    go_wp2_with (at_builtin; refine wpList_app EI TI rfl _ _ rfl rfl hown0.out (some ad) xs.length cap xs rfl rfl hE1.out HS.out.nil0 (by simp; omega) (by simp; unfold maxLen; omega) (by simp) ?_; intro v' w' hown' hgrow hf)
    go_ret
    exact ⟨_, rfl, hown', ((Below.refl _ w).alloc (Nat.le_refl _) _).grown hgrow (by simp) (fun j hj => (World.ownsRow.lt hown0.out j hj).1)⟩
set_option linter.unusedSimpArgs false in
set_option linter.unusedVariables false in
set_option maxHeartbeats 8000000 in
set_option maxRecDepth 100000 in
theorem to_any {w : World} {base p : Nat} {lv ov tv : Value} {os : List RM} {c : Co} (h : CAt w base p lv ov tv os c) (hd : c.dest.length ≤ 100) : Calls Try.prog 24 #[.pointer (some ⟨p, 0, none⟩)] w (IntsP c.dest w) := by
  obtain ⟨a, cap, hv, hs, -⟩ := OwnL.sli EI h.dst
  subst hv
  have g := h.toCL.cells.1.2.2.2.2.2.2.2.2.2.2.2.2
  have HC := Lib.hid (cloneI_any a cap c.dest.length c.dest rfl w hs (by omega))
  clear h hs
  go_enter Try.func24, Try.ntmps24
  go_wp2_with (go_at_call 53; refine HC.out.mono ?_; rintro e w1 ⟨v, rfl, h1, h2⟩; have H1 := Lib.hid h1; have H2 := Lib.hid h2; clear h1 h2)
  go_ret
  exact ⟨_, rfl, H1.out, H2.out⟩
theorem ents_of_lst {w : World} {a : Option Addr} {es : List Ent} (h : Lst encE 4 w a es) : Ents w a es := by
  intro i hi
  obtain ⟨b, off, e, hc⟩ := h i hi
  exact ⟨b, off, e, by simpa using hc 0 _ rfl, by simpa using hc 1 _ rfl, by simpa using hc 2 _ rfl, by simpa using hc 3 _ rfl⟩
theorem lit_ents (w : World) (x : Ent) : Ents (w.alloc (.cells #[.int .u64 x.1, .int .i64 x.2.1, .int .u64 x.2.2.1, .int .u64 x.2.2.2] 30)) (some ⟨w.heap.size, 0, none⟩) [x] := ents_of_lst (litE w x)
theorem h_stay {w w' : World} {base p : Nat} {lv ov tv : Value} {os : List RM} {c : Co} (h : CAt w' base p lv ov tv os c) (hb : Below w.heap.size w w') : CUpd base p lv ov tv c w w' := ⟨lv, ov, tv, os, h, Mod.bel hb, fun _ hk => .inl hk⟩
theorem pro_wf {c : Co} {x : Ent} (ok : Ok c) (hx : 0 ≤ x.2.2.1 ∧ 0 ≤ x.2.2.2) : ∀ i, i < [((c.term, x.2) : Ent)].length → wfE ([((c.term, x.2) : Ent)].getD i default) := by
  intro i hi
  obtain rfl : i = 0 := by simp at hi; omega
  exact ⟨ok.term.1, hx.1, hx.2⟩
def ProS (p bx : Nat) (lv : Value) (x : Ent) (w' : World) : Prop := w'.cell? ⟨p, 3, none⟩ = some lv ∧ w'.cell? ⟨bx, 0, none⟩ = some (.int .u64 x.1) ∧ w'.cell? ⟨bx, 1, none⟩ = some (.int .i64 x.2.1) ∧ w'.cell? ⟨bx, 2, none⟩ = some (.int .u64 x.2.2.1) ∧ w'.cell? ⟨bx, 3, none⟩ = some (.int .u64 x.2.2.2)
theorem proS_bel {p bx : Nat} {lv : Value} {x : Ent} {w w' : World} (h : ProS p bx lv x w) (hb : Below w.heap.size w w') : ProS p bx lv x w' := ⟨keepc' h.1 hb, keepc' h.2.1 hb, keepc' h.2.2.1 hb, keepc' h.2.2.2.1 hb, keepc' h.2.2.2.2 hb⟩
/-- what Propose answers, and leaves. -/
def ProP (base p : Nat) (lv ov tv : Value) (r : Int × Co) (w : World) (e : Ending) (w' : World) : Prop := e = .returned (.int .i64 r.1) ∧ CUpd base p lv ov tv r.2 w w'
set_option linter.unusedSimpArgs false in
set_option linter.unusedVariables false in
set_option maxHeartbeats 8000000 in
set_option maxRecDepth 100000 in
theorem propose_not {w : World} {base p : Nat} {lv ov tv : Value} {os : List RM} {c : Co} (x : Ent) (h : CAt w base p lv ov tv os c) (ok : Ok c) (hx : 0 ≤ x.2.2.1 ∧ 0 ≤ x.2.2.2) (hr : c.role ≠ 2) :
    Calls Try.prog 25 #[.pointer (some ⟨p, 0, none⟩), .agg #[.int .u64 x.1, .int .i64 x.2.1, .int .u64 x.2.2.1, .int .u64 x.2.2.2]] w (ProP base p lv ov tv (c.propose x) w) := by
  have mixed : Try.prog.follows .mixedOrders = true := by kernel_rfl
  have HW := Lib.hid (bel1 w (.cells #[.int .u64 x.1, .int .i64 x.2.1, .int .u64 x.2.2.1, .int .u64 x.2.2.2] 30))
  have C1 := Lib.hid (h.below HW.out)
  have HH := Lib.hid h
  have g1 := fun o => (h.below (bel1 w o)).toCL.cells.1.2.1
  have g3 := fun o => (h.below (bel1 w o)).toCL.cells.1.2.2.2.1
  have g5 := fun o => (h.below (bel1 w o)).toCL.cells.1.2.2.2.2.2.1
  have HNE := Lib.hid (show w.heap.size ≠ p from by have := h.toCL.lt.1; omega)
  have HV := Lib.hid (show c.propose x = (13, c) by unfold Co.propose; rw [if_pos hr])
  have hb : (c.role != 2) = true := by simp [hr]
  clear h ok hx hr
  go_enter Try.func25, Try.ntmps25
  go_wp2
  go_ret
  rw [HV.out]
  exact ⟨rfl, HH.out.stay HW.out⟩
set_option linter.unusedSimpArgs false in
set_option linter.unusedVariables false in
set_option maxHeartbeats 8000000 in
set_option maxRecDepth 100000 in
theorem propose_arg {w : World} {base p : Nat} {lv ov tv : Value} {os : List RM} {c : Co} (x : Ent) (h : CAt w base p lv ov tv os c) (ok : Ok c) (hx : 0 ≤ x.2.2.1 ∧ 0 ≤ x.2.2.2) (hr : c.role = 2) (hc : checkE [(c.term, x.2)] ≠ 0) :
    Calls Try.prog 25 #[.pointer (some ⟨p, 0, none⟩), .agg #[.int .u64 x.1, .int .i64 x.2.1, .int .u64 x.2.2.1, .int .u64 x.2.2.2]] w (ProP base p lv ov tv (c.propose x) w) := by
  have mixed : Try.prog.follows .mixedOrders = true := by kernel_rfl
  have HW := Lib.hid (bel1 w (.cells #[.int .u64 x.1, .int .i64 x.2.1, .int .u64 x.2.2.1, .int .u64 x.2.2.2] 30))
  have C1 := Lib.hid (h.below HW.out)
  have HH := Lib.hid h
  have g1 := fun o => (h.below (bel1 w o)).toCL.cells.1.2.1
  have g3 := fun o => (h.below (bel1 w o)).toCL.cells.1.2.2.2.1
  have g5 := fun o => (h.below (bel1 w o)).toCL.cells.1.2.2.2.2.2.1
  have HNE := Lib.hid (show w.heap.size ≠ p from by have := h.toCL.lt.1; omega)
  have HV := Lib.hid (show c.propose x = (2, c) by unfold Co.propose; rw [if_neg (by simp [hr]), if_pos hc])
  have hb : (c.role != 2) = false := by simp [hr]
  obtain ⟨la, lc, hv, hsl, -⟩ := own_sl h.log
  subst hv
  have HCK := Lib.hid (fun W (hE : Ents W (some ⟨w.heap.size + 1, 0, none⟩) [(c.term, x.2)]) => check_any (some ⟨w.heap.size + 1, 0, none⟩) 1 [(c.term, x.2)] W hE (by unfold maxLen; simp) (pro_wf ok hx))
  have HLE := Lib.hid (show Ents ((w.alloc (.cells #[.int .u64 c.term, .int .i64 x.2.1, .int .u64 x.2.2.1, .int .u64 x.2.2.2] 30)).alloc (.cells #[.int .u64 c.term, .int .i64 x.2.1, .int .u64 x.2.2.1, .int .u64 x.2.2.2] 30)) (some ⟨w.heap.size + 1, 0, none⟩) [(c.term, x.2)] by have h5 := lit_ents (w.alloc (.cells #[.int .u64 c.term, .int .i64 x.2.1, .int .u64 x.2.2.1, .int .u64 x.2.2.2] 30)) (c.term, x.2); simpa using h5)
  have HZ := Lib.hid (show (w.alloc (.cells #[.int .u64 c.term, .int .i64 x.2.1, .int .u64 x.2.2.1, .int .u64 x.2.2.2] 30)).heap.size = w.heap.size + 1 by simp)
  have HBB := Lib.hid (show Below w.heap.size w ((w.alloc (.cells #[.int .u64 c.term, .int .i64 x.2.1, .int .u64 x.2.2.1, .int .u64 x.2.2.2] 30)).alloc (.cells #[.int .u64 c.term, .int .i64 x.2.1, .int .u64 x.2.2.1, .int .u64 x.2.2.2] 30)) from (bel1 w _).trans ((bel1 _ _).mono (by simp)))
  obtain ⟨ck, hck⟩ : ∃ ck, ck = checkE [(c.term, x.2)] := ⟨_, rfl⟩
  rw [← hck] at HCK hc
  have hcb : (ck != 0) = true := by simp [hc]
  clear hck hc
  rw [hr] at g5
  clear h ok hx hr hsl
  go_enter Try.func25, Try.ntmps25
  go_wp2_with (go_at_call 9; refine (HCK.out _ HLE.out).mono ?_; rintro e w5 ⟨rfl, hb5⟩; have HB5 := Lib.hid hb5; clear hb5)
  go_ret
  rw [HV.out]
  exact ⟨rfl, HH.out.stay (HBB.out.trans (HB5.out.mono HBB.out.size))⟩
set_option linter.unusedSimpArgs false in
set_option linter.unusedVariables false in
set_option maxHeartbeats 8000000 in
set_option maxRecDepth 100000 in
theorem propose_long {w : World} {base p : Nat} {lv ov tv : Value} {os : List RM} {c : Co} (x : Ent) (h : CAt w base p lv ov tv os c) (ok : Ok c) (hx : 0 ≤ x.2.2.1 ∧ 0 ≤ x.2.2.2) (hr : c.role = 2) (hc : checkE [(c.term, x.2)] = 0) (hl : 300 ≤ c.log.length) :
    Calls Try.prog 25 #[.pointer (some ⟨p, 0, none⟩), .agg #[.int .u64 x.1, .int .i64 x.2.1, .int .u64 x.2.2.1, .int .u64 x.2.2.2]] w (ProP base p lv ov tv (c.propose x) w) := by
  have mixed : Try.prog.follows .mixedOrders = true := by kernel_rfl
  have HW := Lib.hid (bel1 w (.cells #[.int .u64 x.1, .int .i64 x.2.1, .int .u64 x.2.2.1, .int .u64 x.2.2.2] 30))
  have C1 := Lib.hid (h.below HW.out)
  have HH := Lib.hid h
  have g1 := fun o => (h.below (bel1 w o)).toCL.cells.1.2.1
  have g3 := fun o => (h.below (bel1 w o)).toCL.cells.1.2.2.2.1
  have g5 := fun o => (h.below (bel1 w o)).toCL.cells.1.2.2.2.2.2.1
  have HNE := Lib.hid (show w.heap.size ≠ p from by have := h.toCL.lt.1; omega)
  have HV := Lib.hid (show c.propose x = (3, c) by unfold Co.propose; rw [if_neg (by simp [hr]), if_neg (by simp [hc]), if_pos hl])
  have hb : (c.role != 2) = false := by simp [hr]
  obtain ⟨la, lc, hv, hsl, -⟩ := own_sl h.log
  subst hv
  have HCK := Lib.hid (fun W (hE : Ents W (some ⟨w.heap.size + 1, 0, none⟩) [(c.term, x.2)]) => check_any (some ⟨w.heap.size + 1, 0, none⟩) 1 [(c.term, x.2)] W hE (by unfold maxLen; simp) (pro_wf ok hx))
  have HLE := Lib.hid (show Ents ((w.alloc (.cells #[.int .u64 c.term, .int .i64 x.2.1, .int .u64 x.2.2.1, .int .u64 x.2.2.2] 30)).alloc (.cells #[.int .u64 c.term, .int .i64 x.2.1, .int .u64 x.2.2.1, .int .u64 x.2.2.2] 30)) (some ⟨w.heap.size + 1, 0, none⟩) [(c.term, x.2)] by have h5 := lit_ents (w.alloc (.cells #[.int .u64 c.term, .int .i64 x.2.1, .int .u64 x.2.2.1, .int .u64 x.2.2.2] 30)) (c.term, x.2); simpa using h5)
  have HZ := Lib.hid (show (w.alloc (.cells #[.int .u64 c.term, .int .i64 x.2.1, .int .u64 x.2.2.1, .int .u64 x.2.2.2] 30)).heap.size = w.heap.size + 1 by simp)
  have HBB := Lib.hid (show Below w.heap.size w ((w.alloc (.cells #[.int .u64 c.term, .int .i64 x.2.1, .int .u64 x.2.2.1, .int .u64 x.2.2.2] 30)).alloc (.cells #[.int .u64 c.term, .int .i64 x.2.1, .int .u64 x.2.2.1, .int .u64 x.2.2.2] 30)) from (bel1 w _).trans ((bel1 _ _).mono (by simp)))
  rw [hc] at HCK
  rw [hr] at g5
  have hli : 300 ≤ (c.log.length : Int) := by omega
  have HG3 := Lib.hid (C1.out.toCL.cells.1.2.2.2.1)
  clear h ok hx hr hsl hl hc
  go_enter Try.func25, Try.ntmps25
  go_wp2_with (go_at_call 9; refine (HCK.out _ HLE.out).mono ?_; rintro e w5 ⟨rfl, hb5⟩; have HB5 := Lib.hid hb5; have g3b := keepc' (keepc' (g3 (.cells #[.int .u64 c.term, .int .i64 x.2.1, .int .u64 x.2.2.1, .int .u64 x.2.2.2] 30)) (bel1 _ (.cells #[.int .u64 c.term, .int .i64 x.2.1, .int .u64 x.2.2.1, .int .u64 x.2.2.2] 30))) HB5.out; clear hb5)
  go_ret
  rw [HV.out]
  exact ⟨rfl, HH.out.stay (HBB.out.trans (HB5.out.mono HBB.out.size))⟩
set_option linter.unusedSimpArgs false in
set_option linter.unusedVariables false in
set_option maxHeartbeats 8000000 in
set_option maxRecDepth 100000 in
theorem propose_ok {w : World} {base p : Nat} {lv ov tv : Value} {os : List RM} {c : Co} (x : Ent) (h : CAt w base p lv ov tv os c) (ok : Ok c) (hx : 0 ≤ x.2.2.1 ∧ 0 ≤ x.2.2.2) (hr : c.role = 2) (hc : checkE [(c.term, x.2)] = 0) (hl : c.log.length < 300) :
    Calls Try.prog 25 #[.pointer (some ⟨p, 0, none⟩), .agg #[.int .u64 x.1, .int .i64 x.2.1, .int .u64 x.2.2.1, .int .u64 x.2.2.2]] w (ProP base p lv ov tv (c.propose x) w) := by
  have mixed : Try.prog.follows .mixedOrders = true := by kernel_rfl
  have HW := Lib.hid (bel1 w (.cells #[.int .u64 x.1, .int .i64 x.2.1, .int .u64 x.2.2.1, .int .u64 x.2.2.2] 30))
  have C1 := Lib.hid (h.below HW.out)
  have HH := Lib.hid h
  have g1 := fun o => (h.below (bel1 w o)).toCL.cells.1.2.1
  have g3 := fun o => (h.below (bel1 w o)).toCL.cells.1.2.2.2.1
  have g5 := fun o => (h.below (bel1 w o)).toCL.cells.1.2.2.2.2.2.1
  have HNE := Lib.hid (show w.heap.size ≠ p from by have := h.toCL.lt.1; omega)
  have HV := Lib.hid (show c.propose x = (0, { c with log := c.log ++ [(c.term, x.2)] }) by unfold Co.propose; rw [if_neg (by simp [hr]), if_neg (by simp [hc]), if_neg (by omega)])
  have hb : (c.role != 2) = false := by simp [hr]
  obtain ⟨la, lc, hv, hsl, -⟩ := own_sl h.log
  subst hv
  have HCK := Lib.hid (fun W (hE : Ents W (some ⟨w.heap.size + 1, 0, none⟩) [(c.term, x.2)]) => check_any (some ⟨w.heap.size + 1, 0, none⟩) 1 [(c.term, x.2)] W hE (by unfold maxLen; simp) (pro_wf ok hx))
  have HLE := Lib.hid (show Ents ((w.alloc (.cells #[.int .u64 c.term, .int .i64 x.2.1, .int .u64 x.2.2.1, .int .u64 x.2.2.2] 30)).alloc (.cells #[.int .u64 c.term, .int .i64 x.2.1, .int .u64 x.2.2.1, .int .u64 x.2.2.2] 30)) (some ⟨w.heap.size + 1, 0, none⟩) [(c.term, x.2)] by have h5 := lit_ents (w.alloc (.cells #[.int .u64 c.term, .int .i64 x.2.1, .int .u64 x.2.2.1, .int .u64 x.2.2.2] 30)) (c.term, x.2); simpa using h5)
  have HZ := Lib.hid (show (w.alloc (.cells #[.int .u64 c.term, .int .i64 x.2.1, .int .u64 x.2.2.1, .int .u64 x.2.2.2] 30)).heap.size = w.heap.size + 1 by simp)
  have HBB := Lib.hid (show Below w.heap.size w ((w.alloc (.cells #[.int .u64 c.term, .int .i64 x.2.1, .int .u64 x.2.2.1, .int .u64 x.2.2.2] 30)).alloc (.cells #[.int .u64 c.term, .int .i64 x.2.1, .int .u64 x.2.2.1, .int .u64 x.2.2.2] 30)) from (bel1 w _).trans ((bel1 _ _).mono (by simp)))
  rw [hc] at HCK
  rw [hr] at g5
  have hli : (c.log.length : Int) < 300 := by omega
  have HG3 := Lib.hid (C1.out.toCL.cells.1.2.2.2.1)
  have HNL := Lib.hid (show (Value.slice la c.log.length lc).ownBlock ≠ some w.heap.size from fun e => by have := (h.toCL.lt.2 _ e).2; omega)
  clear h ok hx hr hsl hc
  go_enter Try.func25, Try.ntmps25
  go_upto_region 10 with (go_at_call 9; refine (HCK.out _ HLE.out).mono ?_; rintro e w5 ⟨rfl, hb5⟩; have HB5 := Lib.hid hb5; have g3b := keepc' (keepc' (g3 (.cells #[.int .u64 c.term, .int .i64 x.2.1, .int .u64 x.2.2.1, .int .u64 x.2.2.2] 30)) (bel1 _ (.cells #[.int .u64 c.term, .int .i64 x.2.1, .int .u64 x.2.2.1, .int .u64 x.2.2.2] 30))) HB5.out; have hbx := blk_below (blk_below (heap_alloc_new w (.cells #[.int .u64 c.term, .int .i64 x.2.1, .int .u64 x.2.2.1, .int .u64 x.2.2.2] 30)) (bel1 _ (.cells #[.int .u64 c.term, .int .i64 x.2.1, .int .u64 x.2.2.1, .int .u64 x.2.2.2] 30))) HB5.out; have HBX := Lib.hid hbx; clear hb5 hbx)
  have C5 := Lib.hid (HH.out.below (HBB.out.trans (HB5.out.mono HBB.out.size)))
  have HS0 := Lib.hid (show ProS p w.heap.size (.slice la c.log.length lc) (c.term, x.2) w5 from ⟨g3b, (cell_of HBX.out 0 rfl).1, (cell_of HBX.out 1 rfl).1, (cell_of HBX.out 2 rfl).1, (cell_of HBX.out 3 rfl).1⟩)
  clear g3b
  obtain ⟨Y, hY⟩ : ∃ Y, Y = w5 := ⟨_, rfl⟩
  subst hY
  refine wp_region_noPanic ?_
  refine wp_region_lim (ProS p w.heap.size (.slice la c.log.length lc) (c.term, x.2)) (fun i => decide (i < 12)) (fun i => false) (by kernel_rfl) (by kernel_rfl) (proS_bel HS0.out (Below.refl _ _).drew) (fun HT hS0 => ?_)
  refine tkD HT 0 29 (v := ?_) ?_ ?_
  rotate_left
  · (intro w5 hSw; obtain ⟨q1, q2, q3, q4, q5⟩ := hSw; go_simp; (try with_reducible rfl))
  try simp only [s1, s2, s3]
  refine tkD HT 1 30 (v := ?_) ?_ ?_
  rotate_left
  · (intro w5 hSw; obtain ⟨q1, q2, q3, q4, q5⟩ := hSw; go_simp; (try with_reducible rfl))
  try simp only [s1, s2, s3]
  refine tkD HT 2 31 (v := ?_) ?_ ?_
  rotate_left
  · (intro w5 hSw; obtain ⟨q1, q2, q3, q4, q5⟩ := hSw; go_simp; (try with_reducible rfl))
  try simp only [s1, s2, s3]
  refine tkD HT 3 32 (v := ?_) ?_ ?_
  rotate_left
  · (intro w5 hSw; obtain ⟨q1, q2, q3, q4, q5⟩ := hSw; go_simp; (try with_reducible rfl))
  try simp only [s1, s2, s3]
  refine tkD HT 4 33 (v := ?_) ?_ ?_
  rotate_left
  · (intro w5 hSw; obtain ⟨q1, q2, q3, q4, q5⟩ := hSw; go_simp; (try with_reducible rfl))
  try simp only [s1, s2, s3]
  refine tkD HT 5 34 (v := ?_) ?_ ?_
  rotate_left
  · (intro w5 hSw; obtain ⟨q1, q2, q3, q4, q5⟩ := hSw; go_simp; (try with_reducible rfl))
  try simp only [s1, s2, s3]
  refine tkD HT 6 35 (v := ?_) ?_ ?_
  rotate_left
  · (intro w5 hSw; obtain ⟨q1, q2, q3, q4, q5⟩ := hSw; go_simp; (try with_reducible rfl))
  try simp only [s1, s2, s3]
  refine tkS 7 (fun K5 hK => ?_)
  go_simp
  refine hK.out _ _ (proS_bel (proS_bel HS0.out (Below.refl _ _).drew) (bel1 _ (.cells #[.int .u64 c.term, .int .i64 x.2.1, .int .u64 x.2.2.1, .int .u64 x.2.2.2] 30))) (fun hS1 => ?_)
  clear hK K5
  try simp only [Act.put, s1, s2, s3]
  have l1 : Lst encE 4 (World.drew (World.alloc Y (.cells #[.int .u64 c.term, .int .i64 x.2.1, .int .u64 x.2.2.1, .int .u64 x.2.2.2] 30))) (some ⟨Y.heap.size, 0, none⟩) [(c.term, x.2)] := litE Y.drew (c.term, x.2)
  have gl1 : Below Y.heap.size Y (World.drew (World.alloc Y (.cells #[.int .u64 c.term, .int .i64 x.2.1, .int .u64 x.2.2.1, .int .u64 x.2.2.2] 30))) := grew_trans (Below.refl _ Y).drew (bel1 Y.drew (.cells #[.int .u64 c.term, .int .i64 x.2.1, .int .u64 x.2.2.1, .int .u64 x.2.2.2] 30))
  generalize (World.drew (World.alloc Y (.cells #[.int .u64 c.term, .int .i64 x.2.1, .int .u64 x.2.2.1, .int .u64 x.2.2.2] 30))) = V1 at *
  have l1' := Lib.hid l1
  have gl1' := Lib.hid gl1
  clear l1 gl1
  refine tkS 8 (fun K5 hK => ?_)
  refine step_app EE TE rfl (.tmp 34) (.tmp 36) rfl rfl (show OwnL encE 4 30 V1 base (.slice la c.log.length lc) c.log from (C5.out.below gl1'.out).log) (some ⟨Y.heap.size, 0, none⟩) 1 1 [(c.term, x.2)] rfl rfl l1'.out (by simp) (show (c.log.length + 1) * 32 ≤ 140737488355328 by omega) (show c.log.length + 1 ≤ maxLen by unfold maxLen; omega) (by have := (C5.out.below gl1'.out).toCL.lt.1; omega) ?_
  intro v1 w1 ho hg hf
  have HO := Lib.hid (show OwnE w1 base v1 (c.log ++ [(c.term, x.2)]) from ho)
  have HU := Lib.hid ((C5.out.below gl1'.out).more HO.out hg hf)
  have HGM := Lib.hid (show Mod (fun k => (Value.slice la c.log.length lc).ownBlock = some k) V1 w1 from Mod.grown hg (fun _ e => e))
  have hnp := Lib.hid C5.out.toCL.not
  have S1 := proS_bel HS0.out gl1'.out
  refine hK.out _ _ ⟨HGM.out.cell S1.1 hnp.out, HGM.out.cell S1.2.1 HNL.out, HGM.out.cell S1.2.2.1 HNL.out, HGM.out.cell S1.2.2.2.1 HNL.out, HGM.out.cell S1.2.2.2.2 HNL.out⟩ (fun hS2 => ?_)
  clear hK K5 ho hg hf S1
  try simp only [Act.put, s1, s2, s3]
  refine tkD HT 9 38 (v := ?_) ?_ ?_
  rotate_left
  · (intro w5 hSw; obtain ⟨q1, q2, q3, q4, q5⟩ := hSw; go_simp; (try with_reducible rfl))
  try simp only [s1, s2, s3]
  refine tkD HT 10 39 (v := ?_) ?_ ?_
  rotate_left
  · (intro w5 hSw; obtain ⟨q1, q2, q3, q4, q5⟩ := hSw; go_simp; (try with_reducible rfl))
  try simp only [s1, s2, s3]
  refine tkD HT 11 40 (v := ?_) ?_ ?_
  rotate_left
  · (intro w5 hSw; obtain ⟨q1, q2, q3, q4, q5⟩ := hSw; go_simp; (try with_reducible rfl))
  try simp only [s1, s2, s3]
  have k1 := hS2.1
  have k1f : w1.frozen? ⟨p, 3, none⟩ = false := (cell_of (HGM.out.heap (C5.out.below gl1'.out).toCL.blk hnp.out) 3 (v := .slice la c.log.length lc) rfl).2
  obtain ⟨sa1, sc1, hv1, -, -⟩ := own_sl HO.out
  subst hv1
  refine tkL 12 (fun K5 hK => ?_)
  go_simp
  refine hK.out _ _ ?_
  clear hK K5
  try simp only [Act.put, s1, s2, s3]
  refine wpAnyM_done (by kernel_rfl) (NoPanic.normal ?_)
  go_wp2
  go_ret
  rw [HV.out]
  refine ⟨rfl, CUpd.below ((HBB.out.trans (HB5.out.mono HBB.out.size)).trans (gl1'.out.mono (HBB.out.trans (HB5.out.mono HBB.out.size)).size)) ?_⟩
  have hU := HU.out
  rw [show List.length (c.log ++ [((c.term, x.2) : Ent)]) = c.log.length + 1 by simp] at hU
  exact hU
theorem propose_any {w : World} {base p : Nat} {lv ov tv : Value} {os : List RM} {c : Co} (x : Ent) (h : CAt w base p lv ov tv os c) (ok : Ok c) (hx : 0 ≤ x.2.2.1 ∧ 0 ≤ x.2.2.2) :
    Calls Try.prog 25 #[.pointer (some ⟨p, 0, none⟩), .agg #[.int .u64 x.1, .int .i64 x.2.1, .int .u64 x.2.2.1, .int .u64 x.2.2.2]] w (ProP base p lv ov tv (c.propose x) w) := by
  by_cases hr : c.role = 2
  · by_cases hc : checkE [(c.term, x.2)] = 0
    · by_cases hl : 300 ≤ c.log.length
      · exact propose_long x h ok hx hr hc hl
      · exact propose_ok x h ok hx hr hc (by omega)
    · exact propose_arg x h ok hx hr hc
  · exact propose_not x h ok hx hr
end Go.Proofs.Ytcleaamjfjnkkaa
