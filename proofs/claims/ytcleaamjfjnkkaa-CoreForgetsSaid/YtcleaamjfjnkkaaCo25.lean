/- A message that comes. -/
import Derived.Test.YtcleaamjfjnkkaaCo15
import Derived.Test.YtcleaamjfjnkkaaCo22
import Derived.Test.YtcleaamjfjnkkaaCo24
namespace Go.Proofs.Ytcleaamjfjnkkaa
open Go.RowKit Go.Joins

theorem take_any {w : World} {base p : Nat} {lv ov tv : Value} {os : List RM} {c : Co} (m : Mg) (ea : Option Addr) (en ec : Nat) (r : Nat → Value) (f : Int) (h : CAt w base p lv ov tv os c) (ok : Ok c) (hE : EAt w (CF p lv ov tv) ⟨ea, ec, m⟩) (hen : m.ents.length = en) (ht0 : 0 ≤ m.term) (ht1 : m.term ≤ 18446744073709551615) (hpv : I64 m.prev) (hcm : I64 m.commit) (hle : m.ents.length ≤ 1000) (hwf : ∀ i, i < m.ents.length → wfE (m.ents.getD i default)) (hl : c.out.length ≤ 80) (hd : c.dest.length ≤ 80) :
    Calls Try.prog 47 #[.pointer (some ⟨p, 0, none⟩), .int .i64 f, .agg #[.int .i64 m.kind, .int .u64 m.term, .int .i64 m.prev, .int .u64 m.pterm, .slice ea en ec, .int .i64 m.commit, .bool m.yes, .int .i64 m.mat, .int .i64 m.stamp, r 0, r 1, r 2, r 3, r 4, r 5, r 6, r 7, r 8, r 9, r 10, r 11, r 12, r 13, r 14, r 15, r 16]] w (Tup0 (CUpd base p lv ov tv (c.take f m) w)) := by
  by_cases ht : m.term < c.term
  · exact take_old m ea en ec r f h ok hE hen ht0 ht1 hpv hcm hle hwf hl hd ht
  · by_cases hr : c.role = 2 ∧ m.term = c.term
    · exact take_mine m ea en ec r f h ok hE hen ht0 ht1 hpv hcm hle hwf hl hd ht hr
    · exact take_go m ea en ec r f h ok hE hen ht0 ht1 hpv hcm hle hwf hl hd ht hr
/-- a message that may come: its numbers fit, its entries lie somewhere. -/
structure MOk (m : Mg) : Prop where
  term : 0 ≤ m.term ∧ m.term ≤ 18446744073709551615
  prev : I64 m.prev
  commit : I64 m.commit
  mat : I64 m.mat
  stamp : I64 m.stamp
  len : m.ents.length ≤ 1000
  wf : ∀ i, i < m.ents.length → wfE (m.ents.getD i default)
theorem ok_begin {c : Co} (h : Ok c) {clock : Int} (hc : I64 clock) : Ok (c.begin clock) :=
  ⟨h.me, h.term, h.voted, h.log, h.wf, h.commit, h.heard, h.since, hc, h.timeout, h.pr, h.led⟩
set_option linter.unusedSimpArgs false in
set_option linter.unusedVariables false in
set_option maxHeartbeats 8000000 in
set_option maxRecDepth 100000 in
theorem handle_neg {w : World} {base p : Nat} {lv ov tv : Value} {c : Co} (m : Mg) (ea : Option Addr) (en ec : Nat) (r : Nat → Value) (f clock draw : Int) (hcl : I64 clock) (hdr : I64 draw) (h : CL w base p lv ov tv c) (ok : Ok c) (mok : MOk m) (hen : m.ents.length = en) (hE : EAt w (CF p lv NIL NIL) ⟨ea, ec, m⟩) (hf : f < 0) :
    Calls Try.prog 17 #[.pointer (some ⟨p, 0, none⟩), .int .i64 f, .agg #[.int .i64 m.kind, .int .u64 m.term, .int .i64 m.prev, .int .u64 m.pterm, .slice ea en ec, .int .i64 m.commit, .bool m.yes, .int .i64 m.mat, .int .i64 m.stamp, r 0, r 1, r 2, r 3, r 4, r 5, r 6, r 7, r 8, r 9, r 10, r 11, r 12, r 13, r 14, r 15, r 16], .int .i64 clock, .int .i64 draw] w (OutP base p lv (c.handle f m clock draw) w) := by
  have mixed : Try.prog.follows .mixedOrders = true := by kernel_rfl
  have HW := Lib.hid (bel1 w (.cells (mArr m ea en ec r) 46))
  have HBL := Lib.hid (heap_alloc_new w (.cells (mArr m ea en ec r) 46))
  have HNE := Lib.hid (show w.heap.size ≠ p from by have := h.lt.1; omega)
  have HB := Lib.hid (begin_any clock (h.below HW.out))
  have HOK := Lib.hid (ok_begin ok hcl)
  have HE := Lib.hid (hE.mod (Mod.bel HW.out) (fun _ hk => .inl hk) : EAt (w.alloc (.cells (mArr m ea en ec r) 46)) (CF p lv NIL NIL) ⟨ea, ec, m⟩)
  have HMO := Lib.hid (And.intro mok hen)
  have HV := Lib.hid (show c.handle f m clock draw = c.begin clock by unfold Co.handle; simp only; rw [if_pos (Or.inl hf)])
  clear h ok mok hen hE hcl hdr
  go_enter Try.func17, Try.ntmps17
  go_wp2_with (go_at_call 35; refine HB.out.mono ?_; rintro e w1 ⟨rfl, hC, hM⟩; have C1 := Lib.hid hC; have M1 := Lib.hid ((Mod.bel HW.out).trans (hM.mono (fun _ _ e => Or.inl e)) : Mod (CF p lv NIL NIL) w w1); have HE1 := Lib.hid (show EAt w1 (CF p lv NIL NIL) ⟨ea, ec, m⟩ from HE.out.mod (hM.mono (fun _ _ e => Or.inl e)) (fun _ hk => .inl hk)); have hbm := hM.heap HBL.out HNE.out; have k0 := (cell_of hbm 0 (v := .int .i64 m.kind) rfl).1; have g0 := hC.toCL.cells.1.1; clear hC hM)
  go_ret
  rw [HV.out]
  exact outP C1.out rfl M1.out (fun k hk => .inl hk)
set_option linter.unusedSimpArgs false in
set_option linter.unusedVariables false in
set_option maxHeartbeats 8000000 in
set_option maxRecDepth 100000 in
theorem handle_big {w : World} {base p : Nat} {lv ov tv : Value} {c : Co} (m : Mg) (ea : Option Addr) (en ec : Nat) (r : Nat → Value) (f clock draw : Int) (hcl : I64 clock) (hdr : I64 draw) (h : CL w base p lv ov tv c) (ok : Ok c) (mok : MOk m) (hen : m.ents.length = en) (hE : EAt w (CF p lv NIL NIL) ⟨ea, ec, m⟩) (hf : 3 ≤ f) :
    Calls Try.prog 17 #[.pointer (some ⟨p, 0, none⟩), .int .i64 f, .agg #[.int .i64 m.kind, .int .u64 m.term, .int .i64 m.prev, .int .u64 m.pterm, .slice ea en ec, .int .i64 m.commit, .bool m.yes, .int .i64 m.mat, .int .i64 m.stamp, r 0, r 1, r 2, r 3, r 4, r 5, r 6, r 7, r 8, r 9, r 10, r 11, r 12, r 13, r 14, r 15, r 16], .int .i64 clock, .int .i64 draw] w (OutP base p lv (c.handle f m clock draw) w) := by
  have mixed : Try.prog.follows .mixedOrders = true := by kernel_rfl
  have HW := Lib.hid (bel1 w (.cells (mArr m ea en ec r) 46))
  have HBL := Lib.hid (heap_alloc_new w (.cells (mArr m ea en ec r) 46))
  have HNE := Lib.hid (show w.heap.size ≠ p from by have := h.lt.1; omega)
  have HB := Lib.hid (begin_any clock (h.below HW.out))
  have HOK := Lib.hid (ok_begin ok hcl)
  have HE := Lib.hid (hE.mod (Mod.bel HW.out) (fun _ hk => .inl hk) : EAt (w.alloc (.cells (mArr m ea en ec r) 46)) (CF p lv NIL NIL) ⟨ea, ec, m⟩)
  have HMO := Lib.hid (And.intro mok hen)
  have HV := Lib.hid (show c.handle f m clock draw = c.begin clock by unfold Co.handle; simp only; rw [if_pos (Or.inr (Or.inl hf))])
  have hf0 : 0 ≤ f := by omega
  clear h ok mok hen hE hcl hdr
  go_enter Try.func17, Try.ntmps17
  go_wp2_with (go_at_call 35; refine HB.out.mono ?_; rintro e w1 ⟨rfl, hC, hM⟩; have C1 := Lib.hid hC; have M1 := Lib.hid ((Mod.bel HW.out).trans (hM.mono (fun _ _ e => Or.inl e)) : Mod (CF p lv NIL NIL) w w1); have HE1 := Lib.hid (show EAt w1 (CF p lv NIL NIL) ⟨ea, ec, m⟩ from HE.out.mod (hM.mono (fun _ _ e => Or.inl e)) (fun _ hk => .inl hk)); have hbm := hM.heap HBL.out HNE.out; have k0 := (cell_of hbm 0 (v := .int .i64 m.kind) rfl).1; have g0 := hC.toCL.cells.1.1; clear hC hM)
  go_ret
  rw [HV.out]
  exact outP C1.out rfl M1.out (fun k hk => .inl hk)
set_option linter.unusedSimpArgs false in
set_option linter.unusedVariables false in
set_option maxHeartbeats 8000000 in
set_option maxRecDepth 100000 in
theorem handle_me {w : World} {base p : Nat} {lv ov tv : Value} {c : Co} (m : Mg) (ea : Option Addr) (en ec : Nat) (r : Nat → Value) (f clock draw : Int) (hcl : I64 clock) (hdr : I64 draw) (h : CL w base p lv ov tv c) (ok : Ok c) (mok : MOk m) (hen : m.ents.length = en) (hE : EAt w (CF p lv NIL NIL) ⟨ea, ec, m⟩) (hf0 : 0 ≤ f) (hf3 : f < 3) (hf : f = c.me) :
    Calls Try.prog 17 #[.pointer (some ⟨p, 0, none⟩), .int .i64 f, .agg #[.int .i64 m.kind, .int .u64 m.term, .int .i64 m.prev, .int .u64 m.pterm, .slice ea en ec, .int .i64 m.commit, .bool m.yes, .int .i64 m.mat, .int .i64 m.stamp, r 0, r 1, r 2, r 3, r 4, r 5, r 6, r 7, r 8, r 9, r 10, r 11, r 12, r 13, r 14, r 15, r 16], .int .i64 clock, .int .i64 draw] w (OutP base p lv (c.handle f m clock draw) w) := by
  have mixed : Try.prog.follows .mixedOrders = true := by kernel_rfl
  have HW := Lib.hid (bel1 w (.cells (mArr m ea en ec r) 46))
  have HBL := Lib.hid (heap_alloc_new w (.cells (mArr m ea en ec r) 46))
  have HNE := Lib.hid (show w.heap.size ≠ p from by have := h.lt.1; omega)
  have HB := Lib.hid (begin_any clock (h.below HW.out))
  have HOK := Lib.hid (ok_begin ok hcl)
  have HE := Lib.hid (hE.mod (Mod.bel HW.out) (fun _ hk => .inl hk) : EAt (w.alloc (.cells (mArr m ea en ec r) 46)) (CF p lv NIL NIL) ⟨ea, ec, m⟩)
  have HMO := Lib.hid (And.intro mok hen)
  have HV := Lib.hid (show c.handle f m clock draw = c.begin clock by unfold Co.handle; simp only; rw [if_pos (show f < 0 ∨ 3 ≤ f ∨ f = (c.begin clock).me from Or.inr (Or.inr hf))])
  have hfb : (f == (c.begin clock).me) = true := by show (f == c.me) = true; simp [hf]
  clear hf
  clear h ok mok hen hE hcl hdr
  go_enter Try.func17, Try.ntmps17
  go_wp2_with (go_at_call 35; refine HB.out.mono ?_; rintro e w1 ⟨rfl, hC, hM⟩; have C1 := Lib.hid hC; have M1 := Lib.hid ((Mod.bel HW.out).trans (hM.mono (fun _ _ e => Or.inl e)) : Mod (CF p lv NIL NIL) w w1); have HE1 := Lib.hid (show EAt w1 (CF p lv NIL NIL) ⟨ea, ec, m⟩ from HE.out.mod (hM.mono (fun _ _ e => Or.inl e)) (fun _ hk => .inl hk)); have hbm := hM.heap HBL.out HNE.out; have k0 := (cell_of hbm 0 (v := .int .i64 m.kind) rfl).1; have g0 := hC.toCL.cells.1.1; clear hC hM)
  go_ret
  rw [HV.out]
  exact outP C1.out rfl M1.out (fun k hk => .inl hk)
set_option linter.unusedSimpArgs false in
set_option linter.unusedVariables false in
set_option maxHeartbeats 8000000 in
set_option maxRecDepth 100000 in
theorem handle_ask {w : World} {base p : Nat} {lv ov tv : Value} {c : Co} (m : Mg) (ea : Option Addr) (en ec : Nat) (r : Nat → Value) (f clock draw : Int) (hcl : I64 clock) (hdr : I64 draw) (h : CL w base p lv ov tv c) (ok : Ok c) (mok : MOk m) (hen : m.ents.length = en) (hE : EAt w (CF p lv NIL NIL) ⟨ea, ec, m⟩) (hf0 : 0 ≤ f) (hf3 : f < 3) (hf : f ≠ c.me) (hk : m.kind = 1) :
    Calls Try.prog 17 #[.pointer (some ⟨p, 0, none⟩), .int .i64 f, .agg #[.int .i64 m.kind, .int .u64 m.term, .int .i64 m.prev, .int .u64 m.pterm, .slice ea en ec, .int .i64 m.commit, .bool m.yes, .int .i64 m.mat, .int .i64 m.stamp, r 0, r 1, r 2, r 3, r 4, r 5, r 6, r 7, r 8, r 9, r 10, r 11, r 12, r 13, r 14, r 15, r 16], .int .i64 clock, .int .i64 draw] w (OutP base p lv (c.handle f m clock draw) w) := by
  have mixed : Try.prog.follows .mixedOrders = true := by kernel_rfl
  have HW := Lib.hid (bel1 w (.cells (mArr m ea en ec r) 46))
  have HBL := Lib.hid (heap_alloc_new w (.cells (mArr m ea en ec r) 46))
  have HNE := Lib.hid (show w.heap.size ≠ p from by have := h.lt.1; omega)
  have HB := Lib.hid (begin_any clock (h.below HW.out))
  have HOK := Lib.hid (ok_begin ok hcl)
  have HE := Lib.hid (hE.mod (Mod.bel HW.out) (fun _ hk => .inl hk) : EAt (w.alloc (.cells (mArr m ea en ec r) 46)) (CF p lv NIL NIL) ⟨ea, ec, m⟩)
  have HMO := Lib.hid (And.intro mok hen)
  have HV := Lib.hid (show c.handle f m clock draw = (c.begin clock).ask f m draw by unfold Co.handle; simp only; rw [if_neg (by rintro (e | e | e); omega; omega; exact hf e)]; rw [if_pos hk])
  have hfb : (f == (c.begin clock).me) = false := by show (f == c.me) = false; simp [hf]
  have kb1 : (m.kind == 1) = true := by simp [hk]
  clear h ok mok hen hE hcl hf hk
  go_enter Try.func17, Try.ntmps17
  go_wp2_with (first
    | (go_at_call 35; refine HB.out.mono ?_; rintro e w1 ⟨rfl, hC, hM⟩; have C1 := Lib.hid hC; have M1 := Lib.hid ((Mod.bel HW.out).trans (hM.mono (fun _ _ e => Or.inl e)) : Mod (CF p lv NIL NIL) w w1); have HE1 := Lib.hid (show EAt w1 (CF p lv NIL NIL) ⟨ea, ec, m⟩ from HE.out.mod (hM.mono (fun _ _ e => Or.inl e)) (fun _ hk => .inl hk)); have hbm := hM.heap HBL.out HNE.out; have k0 := (cell_of hbm 0 (v := .int .i64 m.kind) rfl).1; have g0 := hC.toCL.cells.1.1; clear hC hM)
    | (with_reducible refine wpList_load_row rfl 46 (.tmp 7) rfl w.heap.size rfl 46 _ (0, 0) _ hbm Try.underlying46 rfl (by kernel_rfl) ?_)
    | (go_at_call 45; refine (ask_any m ea en ec r f draw C1.out HOK.out hdr HMO.out.1.term.1 HMO.out.1.term.2 (Nat.zero_le _) (Nat.zero_le _)).mono ?_; rintro e w2 ⟨rfl, hU⟩; obtain ⟨lv9, ov9, tv9, os9, hC9, hM9, hF9⟩ := CUpd.outP M1.out (fun _ hk => .inl hk) hU; clear hbm k0 g0)
    | (go_at_call 42; refine (answer_any hC9.toCL).mono ?_; rintro e w9 ⟨rfl, rfl⟩))
  go_ret
  rw [HV.out]
  exact outP hC9 rfl hM9 hF9
set_option linter.unusedSimpArgs false in
set_option linter.unusedVariables false in
set_option maxHeartbeats 8000000 in
set_option maxRecDepth 100000 in
theorem handle_vote {w : World} {base p : Nat} {lv ov tv : Value} {c : Co} (m : Mg) (ea : Option Addr) (en ec : Nat) (r : Nat → Value) (f clock draw : Int) (hcl : I64 clock) (hdr : I64 draw) (h : CL w base p lv ov tv c) (ok : Ok c) (mok : MOk m) (hen : m.ents.length = en) (hE : EAt w (CF p lv NIL NIL) ⟨ea, ec, m⟩) (hf0 : 0 ≤ f) (hf3 : f < 3) (hf : f ≠ c.me) (hk : m.kind = 2) :
    Calls Try.prog 17 #[.pointer (some ⟨p, 0, none⟩), .int .i64 f, .agg #[.int .i64 m.kind, .int .u64 m.term, .int .i64 m.prev, .int .u64 m.pterm, .slice ea en ec, .int .i64 m.commit, .bool m.yes, .int .i64 m.mat, .int .i64 m.stamp, r 0, r 1, r 2, r 3, r 4, r 5, r 6, r 7, r 8, r 9, r 10, r 11, r 12, r 13, r 14, r 15, r 16], .int .i64 clock, .int .i64 draw] w (OutP base p lv (c.handle f m clock draw) w) := by
  have mixed : Try.prog.follows .mixedOrders = true := by kernel_rfl
  have HW := Lib.hid (bel1 w (.cells (mArr m ea en ec r) 46))
  have HBL := Lib.hid (heap_alloc_new w (.cells (mArr m ea en ec r) 46))
  have HNE := Lib.hid (show w.heap.size ≠ p from by have := h.lt.1; omega)
  have HB := Lib.hid (begin_any clock (h.below HW.out))
  have HOK := Lib.hid (ok_begin ok hcl)
  have HE := Lib.hid (hE.mod (Mod.bel HW.out) (fun _ hk => .inl hk) : EAt (w.alloc (.cells (mArr m ea en ec r) 46)) (CF p lv NIL NIL) ⟨ea, ec, m⟩)
  have HMO := Lib.hid (And.intro mok hen)
  have HV := Lib.hid (show c.handle f m clock draw = (c.begin clock).vote f.toNat m by unfold Co.handle; simp only; rw [if_neg (by rintro (e | e | e); omega; omega; exact hf e)]; rw [if_neg (by omega)]; rw [if_pos hk])
  have hfb : (f == (c.begin clock).me) = false := by show (f == c.me) = false; simp [hf]
  have kb1 : (m.kind == 1) = false := by simp [hk]
  have kb2 : (m.kind == 2) = true := by simp [hk]
  clear h ok mok hen hE hcl hdr hf hk
  obtain ⟨v, hv⟩ : ∃ v : Nat, f = (v : Int) := ⟨f.toNat, by omega⟩
  subst hv
  rw [Int.toNat_natCast] at HV
  go_enter Try.func17, Try.ntmps17
  go_wp2_with (first
    | (go_at_call 35; refine HB.out.mono ?_; rintro e w1 ⟨rfl, hC, hM⟩; have C1 := Lib.hid hC; have M1 := Lib.hid ((Mod.bel HW.out).trans (hM.mono (fun _ _ e => Or.inl e)) : Mod (CF p lv NIL NIL) w w1); have HE1 := Lib.hid (show EAt w1 (CF p lv NIL NIL) ⟨ea, ec, m⟩ from HE.out.mod (hM.mono (fun _ _ e => Or.inl e)) (fun _ hk => .inl hk)); have hbm := hM.heap HBL.out HNE.out; have k0 := (cell_of hbm 0 (v := .int .i64 m.kind) rfl).1; have g0 := hC.toCL.cells.1.1; clear hC hM)
    | (with_reducible refine wpList_load_row rfl 46 (.tmp 7) rfl w.heap.size rfl 46 _ (0, 0) _ hbm Try.underlying46 rfl (by kernel_rfl) ?_)
    | (go_at_call 46; refine (vote_any m ea en ec r v (by omega) C1.out HOK.out HMO.out.1.term.1 HMO.out.1.term.2 (Nat.zero_le _) (Nat.zero_le _)).mono ?_; rintro e w2 ⟨rfl, hU⟩; obtain ⟨lv9, ov9, tv9, os9, hC9, hM9, hF9⟩ := CUpd.outP M1.out (fun _ hk => .inl hk) hU; clear hbm k0 g0)
    | (go_at_call 42; refine (answer_any hC9.toCL).mono ?_; rintro e w9 ⟨rfl, rfl⟩))
  go_ret
  rw [HV.out]
  exact outP hC9 rfl hM9 hF9
set_option linter.unusedSimpArgs false in
set_option linter.unusedVariables false in
set_option maxHeartbeats 8000000 in
set_option maxRecDepth 100000 in
theorem handle_take {w : World} {base p : Nat} {lv ov tv : Value} {c : Co} (m : Mg) (ea : Option Addr) (en ec : Nat) (r : Nat → Value) (f clock draw : Int) (hcl : I64 clock) (hdr : I64 draw) (h : CL w base p lv ov tv c) (ok : Ok c) (mok : MOk m) (hen : m.ents.length = en) (hE : EAt w (CF p lv NIL NIL) ⟨ea, ec, m⟩) (hf0 : 0 ≤ f) (hf3 : f < 3) (hf : f ≠ c.me) (hk : m.kind = 3) :
    Calls Try.prog 17 #[.pointer (some ⟨p, 0, none⟩), .int .i64 f, .agg #[.int .i64 m.kind, .int .u64 m.term, .int .i64 m.prev, .int .u64 m.pterm, .slice ea en ec, .int .i64 m.commit, .bool m.yes, .int .i64 m.mat, .int .i64 m.stamp, r 0, r 1, r 2, r 3, r 4, r 5, r 6, r 7, r 8, r 9, r 10, r 11, r 12, r 13, r 14, r 15, r 16], .int .i64 clock, .int .i64 draw] w (OutP base p lv (c.handle f m clock draw) w) := by
  have mixed : Try.prog.follows .mixedOrders = true := by kernel_rfl
  have HW := Lib.hid (bel1 w (.cells (mArr m ea en ec r) 46))
  have HBL := Lib.hid (heap_alloc_new w (.cells (mArr m ea en ec r) 46))
  have HNE := Lib.hid (show w.heap.size ≠ p from by have := h.lt.1; omega)
  have HB := Lib.hid (begin_any clock (h.below HW.out))
  have HOK := Lib.hid (ok_begin ok hcl)
  have HE := Lib.hid (hE.mod (Mod.bel HW.out) (fun _ hk => .inl hk) : EAt (w.alloc (.cells (mArr m ea en ec r) 46)) (CF p lv NIL NIL) ⟨ea, ec, m⟩)
  have HMO := Lib.hid (And.intro mok hen)
  have HV := Lib.hid (show c.handle f m clock draw = (c.begin clock).take f m by unfold Co.handle; simp only; rw [if_neg (by rintro (e | e | e); omega; omega; exact hf e)]; rw [if_neg (by omega)]; rw [if_neg (by omega)]; rw [if_pos hk])
  have hfb : (f == (c.begin clock).me) = false := by show (f == c.me) = false; simp [hf]
  have kb1 : (m.kind == 1) = false := by simp [hk]
  have kb2 : (m.kind == 2) = false := by simp [hk]
  have kb3 : (m.kind == 3) = true := by simp [hk]
  clear h ok mok hen hE hcl hdr hf hk
  go_enter Try.func17, Try.ntmps17
  go_wp2_with (first
    | (go_at_call 35; refine HB.out.mono ?_; rintro e w1 ⟨rfl, hC, hM⟩; have C1 := Lib.hid hC; have M1 := Lib.hid ((Mod.bel HW.out).trans (hM.mono (fun _ _ e => Or.inl e)) : Mod (CF p lv NIL NIL) w w1); have HE1 := Lib.hid (show EAt w1 (CF p lv NIL NIL) ⟨ea, ec, m⟩ from HE.out.mod (hM.mono (fun _ _ e => Or.inl e)) (fun _ hk => .inl hk)); have hbm := hM.heap HBL.out HNE.out; have k0 := (cell_of hbm 0 (v := .int .i64 m.kind) rfl).1; have g0 := hC.toCL.cells.1.1; clear hC hM)
    | (with_reducible refine wpList_load_row rfl 46 (.tmp 7) rfl w.heap.size rfl 46 _ (0, 0) _ hbm Try.underlying46 rfl (by kernel_rfl) ?_)
    | (go_at_call 47; refine (take_any m ea en ec r f C1.out HOK.out HE1.out HMO.out.2 HMO.out.1.term.1 HMO.out.1.term.2 HMO.out.1.prev HMO.out.1.commit HMO.out.1.len HMO.out.1.wf (Nat.zero_le _) (Nat.zero_le _)).mono ?_; rintro e w2 ⟨rfl, hU⟩; obtain ⟨lv9, ov9, tv9, os9, hC9, hM9, hF9⟩ := CUpd.outP M1.out (fun _ hk => .inl hk) hU; clear hbm k0 g0)
    | (go_at_call 42; refine (answer_any hC9.toCL).mono ?_; rintro e w9 ⟨rfl, rfl⟩))
  go_ret
  rw [HV.out]
  exact outP hC9 rfl hM9 hF9
set_option linter.unusedSimpArgs false in
set_option linter.unusedVariables false in
set_option maxHeartbeats 8000000 in
set_option maxRecDepth 100000 in
theorem handle_answered {w : World} {base p : Nat} {lv ov tv : Value} {c : Co} (m : Mg) (ea : Option Addr) (en ec : Nat) (r : Nat → Value) (f clock draw : Int) (hcl : I64 clock) (hdr : I64 draw) (h : CL w base p lv ov tv c) (ok : Ok c) (mok : MOk m) (hen : m.ents.length = en) (hE : EAt w (CF p lv NIL NIL) ⟨ea, ec, m⟩) (hf0 : 0 ≤ f) (hf3 : f < 3) (hf : f ≠ c.me) (hk : m.kind = 4) :
    Calls Try.prog 17 #[.pointer (some ⟨p, 0, none⟩), .int .i64 f, .agg #[.int .i64 m.kind, .int .u64 m.term, .int .i64 m.prev, .int .u64 m.pterm, .slice ea en ec, .int .i64 m.commit, .bool m.yes, .int .i64 m.mat, .int .i64 m.stamp, r 0, r 1, r 2, r 3, r 4, r 5, r 6, r 7, r 8, r 9, r 10, r 11, r 12, r 13, r 14, r 15, r 16], .int .i64 clock, .int .i64 draw] w (OutP base p lv (c.handle f m clock draw) w) := by
  have mixed : Try.prog.follows .mixedOrders = true := by kernel_rfl
  have HW := Lib.hid (bel1 w (.cells (mArr m ea en ec r) 46))
  have HBL := Lib.hid (heap_alloc_new w (.cells (mArr m ea en ec r) 46))
  have HNE := Lib.hid (show w.heap.size ≠ p from by have := h.lt.1; omega)
  have HB := Lib.hid (begin_any clock (h.below HW.out))
  have HOK := Lib.hid (ok_begin ok hcl)
  have HE := Lib.hid (hE.mod (Mod.bel HW.out) (fun _ hk => .inl hk) : EAt (w.alloc (.cells (mArr m ea en ec r) 46)) (CF p lv NIL NIL) ⟨ea, ec, m⟩)
  have HMO := Lib.hid (And.intro mok hen)
  have HV := Lib.hid (show c.handle f m clock draw = (c.begin clock).answered f.toNat m by unfold Co.handle; simp only; rw [if_neg (by rintro (e | e | e); omega; omega; exact hf e)]; rw [if_neg (by omega)]; rw [if_neg (by omega)]; rw [if_neg (by omega)]; rw [if_pos hk])
  have hfb : (f == (c.begin clock).me) = false := by show (f == c.me) = false; simp [hf]
  have kb1 : (m.kind == 1) = false := by simp [hk]
  have kb2 : (m.kind == 2) = false := by simp [hk]
  have kb3 : (m.kind == 3) = false := by simp [hk]
  have kb4 : (m.kind == 4) = true := by simp [hk]
  clear h ok mok hen hE hcl hdr hf hk
  obtain ⟨v, hv⟩ : ∃ v : Nat, f = (v : Int) := ⟨f.toNat, by omega⟩
  subst hv
  rw [Int.toNat_natCast] at HV
  go_enter Try.func17, Try.ntmps17
  go_wp2_with (first
    | (go_at_call 35; refine HB.out.mono ?_; rintro e w1 ⟨rfl, hC, hM⟩; have C1 := Lib.hid hC; have M1 := Lib.hid ((Mod.bel HW.out).trans (hM.mono (fun _ _ e => Or.inl e)) : Mod (CF p lv NIL NIL) w w1); have HE1 := Lib.hid (show EAt w1 (CF p lv NIL NIL) ⟨ea, ec, m⟩ from HE.out.mod (hM.mono (fun _ _ e => Or.inl e)) (fun _ hk => .inl hk)); have hbm := hM.heap HBL.out HNE.out; have k0 := (cell_of hbm 0 (v := .int .i64 m.kind) rfl).1; have g0 := hC.toCL.cells.1.1; clear hC hM)
    | (with_reducible refine wpList_load_row rfl 46 (.tmp 7) rfl w.heap.size rfl 46 _ (0, 0) _ hbm Try.underlying46 rfl (by kernel_rfl) ?_)
    | (go_at_call 48; refine (answered_any m ea en ec r v (by omega) C1.out HOK.out HMO.out.1.term.1 HMO.out.1.term.2 HMO.out.1.stamp HMO.out.1.mat (Nat.zero_le _) (Nat.zero_le _)).mono ?_; rintro e w2 ⟨rfl, hU⟩; obtain ⟨lv9, ov9, tv9, os9, hC9, hM9, hF9⟩ := CUpd.outP M1.out (fun _ hk => .inl hk) hU; clear hbm k0 g0)
    | (go_at_call 42; refine (answer_any hC9.toCL).mono ?_; rintro e w9 ⟨rfl, rfl⟩))
  go_ret
  rw [HV.out]
  exact outP hC9 rfl hM9 hF9
set_option linter.unusedSimpArgs false in
set_option linter.unusedVariables false in
set_option maxHeartbeats 8000000 in
set_option maxRecDepth 100000 in
theorem handle_none {w : World} {base p : Nat} {lv ov tv : Value} {c : Co} (m : Mg) (ea : Option Addr) (en ec : Nat) (r : Nat → Value) (f clock draw : Int) (hcl : I64 clock) (hdr : I64 draw) (h : CL w base p lv ov tv c) (ok : Ok c) (mok : MOk m) (hen : m.ents.length = en) (hE : EAt w (CF p lv NIL NIL) ⟨ea, ec, m⟩) (hf0 : 0 ≤ f) (hf3 : f < 3) (hf : f ≠ c.me) (hk1 : m.kind ≠ 1) (hk2 : m.kind ≠ 2) (hk3 : m.kind ≠ 3) (hk4 : m.kind ≠ 4) :
    Calls Try.prog 17 #[.pointer (some ⟨p, 0, none⟩), .int .i64 f, .agg #[.int .i64 m.kind, .int .u64 m.term, .int .i64 m.prev, .int .u64 m.pterm, .slice ea en ec, .int .i64 m.commit, .bool m.yes, .int .i64 m.mat, .int .i64 m.stamp, r 0, r 1, r 2, r 3, r 4, r 5, r 6, r 7, r 8, r 9, r 10, r 11, r 12, r 13, r 14, r 15, r 16], .int .i64 clock, .int .i64 draw] w (OutP base p lv (c.handle f m clock draw) w) := by
  have mixed : Try.prog.follows .mixedOrders = true := by kernel_rfl
  have HW := Lib.hid (bel1 w (.cells (mArr m ea en ec r) 46))
  have HBL := Lib.hid (heap_alloc_new w (.cells (mArr m ea en ec r) 46))
  have HNE := Lib.hid (show w.heap.size ≠ p from by have := h.lt.1; omega)
  have HB := Lib.hid (begin_any clock (h.below HW.out))
  have HOK := Lib.hid (ok_begin ok hcl)
  have HE := Lib.hid (hE.mod (Mod.bel HW.out) (fun _ hk => .inl hk) : EAt (w.alloc (.cells (mArr m ea en ec r) 46)) (CF p lv NIL NIL) ⟨ea, ec, m⟩)
  have HMO := Lib.hid (And.intro mok hen)
  have HV := Lib.hid (show c.handle f m clock draw = c.begin clock by unfold Co.handle; simp only; rw [if_neg (by rintro (e | e | e); omega; omega; exact hf e)]; rw [if_neg hk1, if_neg hk2, if_neg hk3, if_neg hk4])
  have hfb : (f == (c.begin clock).me) = false := by show (f == c.me) = false; simp [hf]
  have kb1 : (m.kind == 1) = false := by simp [hk1]
  have kb2 : (m.kind == 2) = false := by simp [hk2]
  have kb3 : (m.kind == 3) = false := by simp [hk3]
  have kb4 : (m.kind == 4) = false := by simp [hk4]
  clear h ok mok hen hE hcl hdr hf hk1 hk2 hk3 hk4
  go_enter Try.func17, Try.ntmps17
  go_wp2_with (first
    | (go_at_call 35; refine HB.out.mono ?_; rintro e w1 ⟨rfl, hC, hM⟩; have C1 := Lib.hid hC; have M1 := Lib.hid ((Mod.bel HW.out).trans (hM.mono (fun _ _ e => Or.inl e)) : Mod (CF p lv NIL NIL) w w1); have HE1 := Lib.hid (show EAt w1 (CF p lv NIL NIL) ⟨ea, ec, m⟩ from HE.out.mod (hM.mono (fun _ _ e => Or.inl e)) (fun _ hk => .inl hk)); have hbm := hM.heap HBL.out HNE.out; have k0 := (cell_of hbm 0 (v := .int .i64 m.kind) rfl).1; have g0 := hC.toCL.cells.1.1; clear hC hM)
    | (go_at_call 42; refine (answer_any C1.out.toCL).mono ?_; rintro e w9 ⟨rfl, rfl⟩))
  go_ret
  rw [HV.out]
  exact outP C1.out rfl M1.out (fun k hk => .inl hk)
theorem handle_any {w : World} {base p : Nat} {lv ov tv : Value} {c : Co} (m : Mg) (ea : Option Addr) (en ec : Nat) (r : Nat → Value) (f clock draw : Int) (hcl : I64 clock) (hdr : I64 draw) (h : CL w base p lv ov tv c) (ok : Ok c) (mok : MOk m) (hen : m.ents.length = en) (hE : EAt w (CF p lv NIL NIL) ⟨ea, ec, m⟩) :
    Calls Try.prog 17 #[.pointer (some ⟨p, 0, none⟩), .int .i64 f, .agg #[.int .i64 m.kind, .int .u64 m.term, .int .i64 m.prev, .int .u64 m.pterm, .slice ea en ec, .int .i64 m.commit, .bool m.yes, .int .i64 m.mat, .int .i64 m.stamp, r 0, r 1, r 2, r 3, r 4, r 5, r 6, r 7, r 8, r 9, r 10, r 11, r 12, r 13, r 14, r 15, r 16], .int .i64 clock, .int .i64 draw] w (OutP base p lv (c.handle f m clock draw) w) := by
  by_cases h0 : f < 0
  · exact handle_neg m ea en ec r f clock draw hcl hdr h ok mok hen hE h0
  by_cases h3 : 3 ≤ f
  · exact handle_big m ea en ec r f clock draw hcl hdr h ok mok hen hE h3
  by_cases hm : f = c.me
  · exact handle_me m ea en ec r f clock draw hcl hdr h ok mok hen hE (by omega) (by omega) hm
  by_cases k1 : m.kind = 1
  · exact handle_ask m ea en ec r f clock draw hcl hdr h ok mok hen hE (by omega) (by omega) hm k1
  by_cases k2 : m.kind = 2
  · exact handle_vote m ea en ec r f clock draw hcl hdr h ok mok hen hE (by omega) (by omega) hm k2
  by_cases k3 : m.kind = 3
  · exact handle_take m ea en ec r f clock draw hcl hdr h ok mok hen hE (by omega) (by omega) hm k3
  by_cases k4 : m.kind = 4
  · exact handle_answered m ea en ec r f clock draw hcl hdr h ok mok hen hE (by omega) (by omega) hm k4
  exact handle_none m ea en ec r f clock draw hcl hdr h ok mok hen hE (by omega) (by omega) hm k1 k2 k3 k4
end Go.Proofs.Ytcleaamjfjnkkaa
