/- An act, done to both: the walk. -/
import Derived.Test.YtmiaifbpepfbnaaDo
namespace Go.Proofs.Ytmiaifbpepfbnaa
open Go.RowKit Go.Joins Go.ChangeMaps

def DoPost (w0 : World) (p bm q : Nat) (s : St) (e : Ending) (w' : World) : Prop := e = .returned (.bool true) ∧ BE w0 w' (fun _ => False) p bm q s s
variable {w0 w : World} {p bm q : Nat} {s : St}
theorem be_box (h : BE w0 w (fun _ => False) p bm q s s) (o : Obj) : BE w0 (w.alloc o) (fun k => k = w.heap.size) p bm q s s :=
  (h.more (bel1 w o)).less (fun k e => .inr (by simp; omega))
theorem box4 {W : World} {b : Nat} {a1 a2 a3 a4 : Value} (h : W.heap[b]? = some (.cells #[a1, a2, a3, a4] 43 (0, 0))) : W.cell? ⟨b, 1, none⟩ = some a2 ∧ W.cell? ⟨b, 2, none⟩ = some a3 ∧ (∀ o, (W.alloc o).cell? ⟨b, 1, none⟩ = some a2) ∧ (∀ o, (W.alloc o).cell? ⟨b, 2, none⟩ = some a3) :=
  ⟨(cell_of h 1 rfl).1, (cell_of h 2 rfl).1, fun o => (cell_of (blk_below h (bel1 W o)) 1 rfl).1, fun o => (cell_of (blk_below h (bel1 W o)) 2 rfl).1⟩
theorem box3 {W : World} {b : Nat} {a1 a2 a3 : Value} (h : W.heap[b]? = some (.cells #[a1, a2, a3] 31 (0, 0))) : (∀ o, (W.alloc o).cell? ⟨b, 0, none⟩ = some a1) ∧ (∀ o, (W.alloc o).cell? ⟨b, 1, none⟩ = some a2) ∧ (∀ o, (W.alloc o).cell? ⟨b, 2, none⟩ = some a3) :=
  ⟨fun o => (cell_of (blk_below h (bel1 W o)) 0 rfl).1, fun o => (cell_of (blk_below h (bel1 W o)) 1 rfl).1, fun o => (cell_of (blk_below h (bel1 W o)) 2 rfl).1⟩
set_option maxHeartbeats 4000000 in
set_option maxRecDepth 100000 in
theorem do_take2 (what xa xb : Int) (la : Option Addr) (n lc : Nat) (hw : what = 2) (h : BE w0 w (fun _ => False) p bm q s s) (hg : Good s) : Calls Try.prog 21 #[.pointer (some ⟨p, 0, none⟩), .pointer (some ⟨q, 0, none⟩), .agg #[.int .i64 what, .int .i64 xa, .int .i64 xb, .slice la n lc]] w (DoPost w0 p bm q (takeS s xa).1) := by
  have hX := Lib.hid (heap_alloc_new w (.cells #[.int .i64 what, .int .i64 xa, .int .i64 xb, .slice la n lc] 43))
  have hBX := Lib.hid (be_box h (.cells #[.int .i64 what, .int .i64 xa, .int .i64 xb, .slice la n lc] 43))
  have h1 := fun (V : World) (F : Nat → Prop) (h : BE w0 V F p bm q s s) => b_take (k := xa) h hg
  have h2 := fun (V : World) (F : Nat → Prop) (h : BE w0 V F p bm q (takeS s xa).1 s) => b_rtake (k := xa) h hg
  have e0 : (what == 0) = false := by simp; omega
  have e1 : (what == 1) = false := by simp; omega
  have e2 : (what == 2) = true := by simp; omega
  generalize takeS s xa = T at *
  obtain ⟨s1, ⟨f0, f1, f2⟩, tb⟩ := T
  simp only [tkV, frV] at h1 h2
  have H1 := Lib.hid h1
  have H2 := Lib.hid h2
  have hq : ∀ V, (binOp .eql 31 (.agg #[.int .i64 f0, .int .i64 f1, .string f2]) (.agg #[.int .i64 f0, .int .i64 f1, .string f2])).run Try.prog V = .ok (.bool true) V := fun V => (eql31 V f0 f1 f0 f1 f2 f2).trans (by rw [(eqF_iff _ _).2 rfl])
  have hbb : (tb == tb) = true := by simp
  clear h1 h2 h hg hw
  go_enter Try.func21, Try.ntmps21
  go_wp2_with (first
    | (go_at_call 17; refine (H1.out _ _ hBX.out).mono ?_; rintro e w1 ⟨rfl, hBs, hFs, -⟩; have hX1 := Lib.hid (hFs _ _ rfl hX.out); obtain ⟨x1, x2, x3, x4⟩ := box4 hX1.out; have hY := Lib.hid (heap_alloc_new w1 (.cells #[.int .i64 f0, .int .i64 f1, .string f2] 31)); have hB1 := Lib.hid ((hBs.more (bel1 w1 (.cells #[.int .i64 f0, .int .i64 f1, .string f2] 31))).less (F' := fun k => k = w.heap.size ∨ k = w1.heap.size) (fun k hk => hk.imp id (fun e => by simp; omega))); clear hBs hFs)
    | (go_at_call 23; refine (H2.out _ _ hB1.out).mono ?_; rintro e w2 ⟨rfl, hBs, hFs, -⟩; have hY2 := Lib.hid (hFs _ _ (.inr rfl) hY.out); obtain ⟨y1, y2, y3⟩ := box3 hY2.out; have hB2 := Lib.hid ((hBs.less (F' := fun _ => False) (fun _ c => c.elim)).below (bel1 w2 (.cells #[.int .i64 f0, .int .i64 f1, .string f2] 31))); clear hBs hFs))
  go_ret
  exact ⟨rfl, hB2.out⟩
set_option maxHeartbeats 4000000 in
set_option maxRecDepth 100000 in
theorem do_take3 (what xa xb : Int) (la : Option Addr) (n lc : Nat) (hw : what = 3) (h : BE w0 w (fun _ => False) p bm q s s) (hg : Good s) : Calls Try.prog 21 #[.pointer (some ⟨p, 0, none⟩), .pointer (some ⟨q, 0, none⟩), .agg #[.int .i64 what, .int .i64 xa, .int .i64 xb, .slice la n lc]] w (DoPost w0 p bm q (takeS s xa).1) := by
  have hX := Lib.hid (heap_alloc_new w (.cells #[.int .i64 what, .int .i64 xa, .int .i64 xb, .slice la n lc] 43))
  have hBX := Lib.hid (be_box h (.cells #[.int .i64 what, .int .i64 xa, .int .i64 xb, .slice la n lc] 43))
  have h1 := fun (V : World) (F : Nat → Prop) (h : BE w0 V F p bm q s s) => b_take (k := xa) h hg
  have h2 := fun (V : World) (F : Nat → Prop) (h : BE w0 V F p bm q (takeS s xa).1 s) => b_rtake (k := xa) h hg
  have e0 : (what == 0) = false := by simp; omega
  have e1 : (what == 1) = false := by simp; omega
  have e2 : (what == 2) = false := by simp; omega
  have e3 : (what == 3) = true := by simp; omega
  generalize takeS s xa = T at *
  obtain ⟨s1, ⟨f0, f1, f2⟩, tb⟩ := T
  simp only [tkV, frV] at h1 h2
  have H1 := Lib.hid h1
  have H2 := Lib.hid h2
  have hq : ∀ V, (binOp .eql 31 (.agg #[.int .i64 f0, .int .i64 f1, .string f2]) (.agg #[.int .i64 f0, .int .i64 f1, .string f2])).run Try.prog V = .ok (.bool true) V := fun V => (eql31 V f0 f1 f0 f1 f2 f2).trans (by rw [(eqF_iff _ _).2 rfl])
  have hbb : (tb == tb) = true := by simp
  clear h1 h2 h hg hw
  go_enter Try.func21, Try.ntmps21
  go_wp2_with (first
    | (go_at_call 17; refine (H1.out _ _ hBX.out).mono ?_; rintro e w1 ⟨rfl, hBs, hFs, -⟩; have hX1 := Lib.hid (hFs _ _ rfl hX.out); obtain ⟨x1, x2, x3, x4⟩ := box4 hX1.out; have hY := Lib.hid (heap_alloc_new w1 (.cells #[.int .i64 f0, .int .i64 f1, .string f2] 31)); have hB1 := Lib.hid ((hBs.more (bel1 w1 (.cells #[.int .i64 f0, .int .i64 f1, .string f2] 31))).less (F' := fun k => k = w.heap.size ∨ k = w1.heap.size) (fun k hk => hk.imp id (fun e => by simp; omega))); clear hBs hFs)
    | (go_at_call 23; refine (H2.out _ _ hB1.out).mono ?_; rintro e w2 ⟨rfl, hBs, hFs, -⟩; have hY2 := Lib.hid (hFs _ _ (.inr rfl) hY.out); obtain ⟨y1, y2, y3⟩ := box3 hY2.out; have hB2 := Lib.hid ((hBs.less (F' := fun _ => False) (fun _ c => c.elim)).below (bel1 w2 (.cells #[.int .i64 f0, .int .i64 f1, .string f2] 31))); clear hBs hFs))
  go_ret
  exact ⟨rfl, hB2.out⟩
set_option linter.unusedVariables false in
set_option maxHeartbeats 4000000 in
set_option maxRecDepth 100000 in
theorem do_drop (what xa xb : Int) (la : Option Addr) (n lc : Nat) (hw : what = 4) (h : BE w0 w (fun _ => False) p bm q s s) (hg : Good s) (hc : s.cnt < 1000000) (hcl : s.cuts.length ≤ 1000000) : Calls Try.prog 21 #[.pointer (some ⟨p, 0, none⟩), .pointer (some ⟨q, 0, none⟩), .agg #[.int .i64 what, .int .i64 xa, .int .i64 xb, .slice la n lc]] w (DoPost w0 p bm q (dropS s xa).1) := by
  have hX := Lib.hid (heap_alloc_new w (.cells #[.int .i64 what, .int .i64 xa, .int .i64 xb, .slice la n lc] 43))
  have hBX := Lib.hid (be_box h (.cells #[.int .i64 what, .int .i64 xa, .int .i64 xb, .slice la n lc] 43))
  have H1 := Lib.hid (fun (V : World) (F : Nat → Prop) (h : BE w0 V F p bm q s s) => b_drop (k := xa) h)
  have H2 := Lib.hid (fun (V : World) (F : Nat → Prop) (h : BE w0 V F p bm q (dropS s xa).1 s) => b_rdrop (k := xa) h hg)
  have e0 : (what == 0) = false := by simp; omega
  have e1 : (what == 1) = false := by simp; omega
  have e2 : (what == 2) = false := by simp; omega
  have e3 : (what == 3) = false := by simp; omega
  have e4 : (what == 4) = true := by simp; omega
  generalize (dropS s xa).2 = tb at *
  generalize (dropS s xa).1 = s1 at *
  have hbb : (tb == tb) = true := by simp
  have mixed : Try.prog.follows .mixedOrders = true := by kernel_rfl
  clear h hg hc hcl hw
  go_enter Try.func21, Try.ntmps21
  go_wp2_with fail
  generalize w.alloc (.cells #[.int .i64 what, .int .i64 xa, .int .i64 xb, .slice la n lc] 43) = X at *
  generalize w.heap.size = nb at *
  obtain ⟨x1, x2, -, -⟩ := box4 hX.out
  go_region_held3 (fun w' => w'.cell? ⟨nb, 1, none⟩ = some (.int .i64 xa) ∧ w'.cell? ⟨nb, 2, none⟩ = some (.int .i64 xb)) (first | exact ⟨x5, x6⟩ | exact ⟨x3, x4⟩ | exact ⟨x1, x2⟩ | go_keep) (first
    | (go_at_call 18; refine (H1.out _ _ (hBX.out.below ((Below.refl _ X).drew))).mono ?_; rintro e w1 ⟨rfl, hBs, hFs, -⟩; have hX1 := Lib.hid (hFs _ _ rfl hX.out); obtain ⟨x3, x4, -, -⟩ := box4 hX1.out; have hB1 := Lib.hid hBs; clear hBs hFs)
    | (go_at_call 34; refine (H2.out _ _ hB1.out).mono ?_; rintro e w2 ⟨rfl, hBs, hFs, -⟩; have hX2 := Lib.hid (hFs _ _ rfl hX1.out); obtain ⟨x5, x6, -, -⟩ := box4 hX2.out; have hB2 := Lib.hid (hBs.less (F' := fun _ => False) (fun _ c => c.elim)); clear hBs hFs))
  all_goals (
    go_wp2
    go_ret
    exact ⟨rfl, hB2.out⟩)
set_option linter.unusedVariables false in
set_option maxHeartbeats 4000000 in
set_option maxRecDepth 100000 in
theorem do_twice (what xa xb : Int) (la : Option Addr) (n lc : Nat) (hw : what = 5) (h : BE w0 w (fun _ => False) p bm q s s) (hg : Good s) (hc : s.cnt < 1000000) (hcl : s.cuts.length ≤ 1000000) : Calls Try.prog 21 #[.pointer (some ⟨p, 0, none⟩), .pointer (some ⟨q, 0, none⟩), .agg #[.int .i64 what, .int .i64 xa, .int .i64 xb, .slice la n lc]] w (DoPost w0 p bm q (twiceS s xa).1) := by
  have hX := Lib.hid (heap_alloc_new w (.cells #[.int .i64 what, .int .i64 xa, .int .i64 xb, .slice la n lc] 43))
  have hBX := Lib.hid (be_box h (.cells #[.int .i64 what, .int .i64 xa, .int .i64 xb, .slice la n lc] 43))
  have H1 := Lib.hid (fun (V : World) (F : Nat → Prop) (h : BE w0 V F p bm q s s) => b_twice (k := xa) h)
  have H2 := Lib.hid (fun (V : World) (F : Nat → Prop) (h : BE w0 V F p bm q (twiceS s xa).1 s) => b_rtwice (k := xa) h)
  have e0 : (what == 0) = false := by simp; omega
  have e1 : (what == 1) = false := by simp; omega
  have e2 : (what == 2) = false := by simp; omega
  have e3 : (what == 3) = false := by simp; omega
  have e4 : (what == 4) = false := by simp; omega
  have e5 : (what == 5) = true := by simp; omega
  generalize (twiceS s xa).2 = tb at *
  generalize (twiceS s xa).1 = s1 at *
  have hbb : (tb == tb) = true := by simp
  have mixed : Try.prog.follows .mixedOrders = true := by kernel_rfl
  clear h hg hc hcl hw
  go_enter Try.func21, Try.ntmps21
  go_wp2_with fail
  generalize w.alloc (.cells #[.int .i64 what, .int .i64 xa, .int .i64 xb, .slice la n lc] 43) = X at *
  generalize w.heap.size = nb at *
  obtain ⟨x1, x2, -, -⟩ := box4 hX.out
  go_region_held3 (fun w' => w'.cell? ⟨nb, 1, none⟩ = some (.int .i64 xa) ∧ w'.cell? ⟨nb, 2, none⟩ = some (.int .i64 xb)) (first | exact ⟨x5, x6⟩ | exact ⟨x3, x4⟩ | exact ⟨x1, x2⟩ | go_keep) (first
    | (go_at_call 11; refine (H1.out _ _ (hBX.out.below ((Below.refl _ X).drew))).mono ?_; rintro e w1 ⟨rfl, hBs, hFs, -⟩; have hX1 := Lib.hid (hFs _ _ rfl hX.out); obtain ⟨x3, x4, -, -⟩ := box4 hX1.out; have hB1 := Lib.hid hBs; clear hBs hFs)
    | (go_at_call 12; refine (H2.out _ _ hB1.out).mono ?_; rintro e w2 ⟨rfl, hBs, hFs, -⟩; have hX2 := Lib.hid (hFs _ _ rfl hX1.out); obtain ⟨x5, x6, -, -⟩ := box4 hX2.out; have hB2 := Lib.hid (hBs.less (F' := fun _ => False) (fun _ c => c.elim)); clear hBs hFs))
  all_goals (
    go_wp2
    go_ret
    exact ⟨rfl, hB2.out⟩)
set_option linter.unusedVariables false in
set_option maxHeartbeats 4000000 in
set_option maxRecDepth 100000 in
theorem do_cut (what xa xb : Int) (la : Option Addr) (n lc : Nat) (hw : what = 6) (h : BE w0 w (fun _ => False) p bm q s s) (hg : Good s) (hc : s.cnt < 1000000) (hcl : s.cuts.length ≤ 1000000) : Calls Try.prog 21 #[.pointer (some ⟨p, 0, none⟩), .pointer (some ⟨q, 0, none⟩), .agg #[.int .i64 what, .int .i64 xa, .int .i64 xb, .slice la n lc]] w (DoPost w0 p bm q (cutS s xa xb).1) := by
  have hX := Lib.hid (heap_alloc_new w (.cells #[.int .i64 what, .int .i64 xa, .int .i64 xb, .slice la n lc] 43))
  have hBX := Lib.hid (be_box h (.cells #[.int .i64 what, .int .i64 xa, .int .i64 xb, .slice la n lc] 43))
  have H1 := Lib.hid (fun (V : World) (F : Nat → Prop) (h : BE w0 V F p bm q s s) => b_cut (a := xa) (b := xb) h hg hc)
  have H2 := Lib.hid (fun (V : World) (F : Nat → Prop) (h : BE w0 V F p bm q (cutS s xa xb).1 s) => b_rcut (a := xa) (b := xb) h hcl)
  have e0 : (what == 0) = false := by simp; omega
  have e1 : (what == 1) = false := by simp; omega
  have e2 : (what == 2) = false := by simp; omega
  have e3 : (what == 3) = false := by simp; omega
  have e4 : (what == 4) = false := by simp; omega
  have e5 : (what == 5) = false := by simp; omega
  have e6 : (what == 6) = true := by simp; omega
  generalize (cutS s xa xb).2 = tb at *
  generalize (cutS s xa xb).1 = s1 at *
  have hbb : (tb == tb) = true := by simp
  have mixed : Try.prog.follows .mixedOrders = true := by kernel_rfl
  clear h hg hc hcl hw
  go_enter Try.func21, Try.ntmps21
  go_wp2_with fail
  generalize w.alloc (.cells #[.int .i64 what, .int .i64 xa, .int .i64 xb, .slice la n lc] 43) = X at *
  generalize w.heap.size = nb at *
  obtain ⟨x1, x2, -, -⟩ := box4 hX.out
  go_region_held3 (fun w' => w'.cell? ⟨nb, 1, none⟩ = some (.int .i64 xa) ∧ w'.cell? ⟨nb, 2, none⟩ = some (.int .i64 xb)) (first | exact ⟨x5, x6⟩ | exact ⟨x3, x4⟩ | exact ⟨x1, x2⟩ | go_keep) (first
    | (go_at_call 16; refine (H1.out _ _ (hBX.out.below ((Below.refl _ X).drew))).mono ?_; rintro e w1 ⟨rfl, hBs, hFs, -⟩; have hX1 := Lib.hid (hFs _ _ rfl hX.out); obtain ⟨x3, x4, -, -⟩ := box4 hX1.out; have hB1 := Lib.hid hBs; clear hBs hFs)
    | (go_at_call 35; refine (H2.out _ _ hB1.out).mono ?_; rintro e w2 ⟨rfl, hBs, hFs, -⟩; have hX2 := Lib.hid (hFs _ _ rfl hX1.out); obtain ⟨x5, x6, -, -⟩ := box4 hX2.out; have hB2 := Lib.hid (hBs.less (F' := fun _ => False) (fun _ c => c.elim)); clear hBs hFs))
  all_goals (
    go_wp2
    go_ret
    exact ⟨rfl, hB2.out⟩)
set_option linter.unusedVariables false in
set_option maxHeartbeats 4000000 in
set_option maxRecDepth 100000 in
theorem do_join (what xa xb : Int) (la : Option Addr) (n lc : Nat) (hw : what = 7) (h : BE w0 w (fun _ => False) p bm q s s) (hg : Good s) (hc : s.cnt < 1000000) (hcl : s.cuts.length ≤ 1000000) : Calls Try.prog 21 #[.pointer (some ⟨p, 0, none⟩), .pointer (some ⟨q, 0, none⟩), .agg #[.int .i64 what, .int .i64 xa, .int .i64 xb, .slice la n lc]] w (DoPost w0 p bm q (joinS s xa xb).1) := by
  have hX := Lib.hid (heap_alloc_new w (.cells #[.int .i64 what, .int .i64 xa, .int .i64 xb, .slice la n lc] 43))
  have hBX := Lib.hid (be_box h (.cells #[.int .i64 what, .int .i64 xa, .int .i64 xb, .slice la n lc] 43))
  have H1 := Lib.hid (fun (V : World) (F : Nat → Prop) (h : BE w0 V F p bm q s s) => b_join (a := xa) (b := xb) h hg)
  have H2 := Lib.hid (fun (V : World) (F : Nat → Prop) (h : BE w0 V F p bm q (joinS s xa xb).1 s) => b_rjoin (a := xa) (b := xb) h hcl)
  have e0 : (what == 0) = false := by simp; omega
  have e1 : (what == 1) = false := by simp; omega
  have e2 : (what == 2) = false := by simp; omega
  have e3 : (what == 3) = false := by simp; omega
  have e4 : (what == 4) = false := by simp; omega
  have e5 : (what == 5) = false := by simp; omega
  have e6 : (what == 6) = false := by simp; omega
  have e7 : (what == 7) = true := by simp; omega
  generalize (joinS s xa xb).2 = tb at *
  generalize (joinS s xa xb).1 = s1 at *
  have hbb : (tb == tb) = true := by simp
  have mixed : Try.prog.follows .mixedOrders = true := by kernel_rfl
  clear h hg hc hcl hw
  go_enter Try.func21, Try.ntmps21
  go_wp2_with fail
  generalize w.alloc (.cells #[.int .i64 what, .int .i64 xa, .int .i64 xb, .slice la n lc] 43) = X at *
  generalize w.heap.size = nb at *
  obtain ⟨x1, x2, -, -⟩ := box4 hX.out
  go_region_held3 (fun w' => w'.cell? ⟨nb, 1, none⟩ = some (.int .i64 xa) ∧ w'.cell? ⟨nb, 2, none⟩ = some (.int .i64 xb)) (first | exact ⟨x5, x6⟩ | exact ⟨x3, x4⟩ | exact ⟨x1, x2⟩ | go_keep) (first
    | (go_at_call 19; refine (H1.out _ _ (hBX.out.below ((Below.refl _ X).drew))).mono ?_; rintro e w1 ⟨rfl, hBs, hFs, -⟩; have hX1 := Lib.hid (hFs _ _ rfl hX.out); obtain ⟨x3, x4, -, -⟩ := box4 hX1.out; have hB1 := Lib.hid hBs; clear hBs hFs)
    | (go_at_call 36; refine (H2.out _ _ hB1.out).mono ?_; rintro e w2 ⟨rfl, hBs, hFs, -⟩; have hX2 := Lib.hid (hFs _ _ rfl hX1.out); obtain ⟨x5, x6, -, -⟩ := box4 hX2.out; have hB2 := Lib.hid (hBs.less (F' := fun _ => False) (fun _ c => c.elim)); clear hBs hFs))
  all_goals (
    go_wp2
    go_ret
    exact ⟨rfl, hB2.out⟩)
end Go.Proofs.Ytmiaifbpepfbnaa
