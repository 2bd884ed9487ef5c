/- One act, done to both disks: the walk. -/
import Derived.Test.YtcgkdomfbkkboaaSame
namespace Go.Proofs.Ytcgkdomfbkkboaa
open Go.RowKit Go.Joins Go.ChangeMaps

theorem blk_below {w w' : World} {p : Nat} {o : Obj} (h : w.heap[p]? = some o) (hb : Below w.heap.size w w') : w'.heap[p]? = some o := (hb.block p (blk_lt h)).trans h
/-- both disks, and the act that is done. -/
def Dx (w0 : World) (nb p bm q : Nat) (bv nv : Value) (what x c : Int) (kv : Value) (s r : St) (V : World) : Prop := BE w0 V (fun k => k = nb) p bm q bv nv s r ∧ V.heap[nb]? = some (.cells #[.int .i64 what, .int .i64 x, .int .u8 c, kv] 55 (0, 0))
def DoPost (w0 : World) (p bm q : Nat) (bv nv : Value) (s : St) (e : Ending) (w' : World) : Prop := e = .returned (.bool true) ∧ BE w0 w' (fun _ => False) p bm q bv nv s s
variable {w0 w V V' : World} {nb p bm q : Nat} {bv nv kv : Value} {what x c : Int} {s r : St}
theorem Dx.below (h : Dx w0 nb p bm q bv nv what x c kv s r V) (hb : Below V.heap.size V V') : Dx w0 nb p bm q bv nv what x c kv s r V' := ⟨h.1.below hb, blk_below h.2 hb⟩
theorem Dx.step (h : Dx w0 nb p bm q bv nv what x c kv s r V) {s' r' : St} (hs : Step w0 V (fun k => k = nb) p bm q bv nv s' r' V') : Dx w0 nb p bm q bv nv what x c kv s' r' V' := ⟨hs.1, hs.2 nb _ rfl h.2⟩
theorem Dx.cells (h : Dx w0 nb p bm q bv nv what x c kv s r V) : V.cell? ⟨nb, 1, none⟩ = some (.int .i64 x) ∧ V.cell? ⟨nb, 2, none⟩ = some (.int .u8 c) := ⟨(cell_of h.2 1 rfl).1, (cell_of h.2 2 rfl).1⟩
theorem Dx.all (h : Dx w0 nb p bm q bv nv what x c kv s r V) : V.cell? ⟨nb, 0, none⟩ = some (.int .i64 what) ∧ V.cell? ⟨nb, 1, none⟩ = some (.int .i64 x) ∧ V.cell? ⟨nb, 2, none⟩ = some (.int .u8 c) ∧ V.cell? ⟨nb, 3, none⟩ = some kv := ⟨(cell_of h.2 0 rfl).1, (cell_of h.2 1 rfl).1, (cell_of h.2 2 rfl).1, (cell_of h.2 3 rfl).1⟩
theorem Dx.done (h : Dx w0 nb p bm q bv nv what x c kv s r V) : BE w0 V (fun _ => False) p bm q bv nv s r := h.1.less (fun _ c => c.elim)
theorem dx_new (h : BE w0 w (fun _ => False) p bm q bv nv s r) : Dx w0 w.heap.size p bm q bv nv what x c kv s r (w.alloc (.cells #[.int .i64 what, .int .i64 x, .int .u8 c, kv] 55)) :=
  ⟨(h.more (bel1 w _)).less (fun k e => .inr (by simp; omega)), heap_alloc_new w _⟩
def RetD (v : Value) (R : World → Prop) (e : Ending) (w' : World) : Prop := e = .returned v ∧ R w'
theorem dx_data (h : Dx w0 nb p bm q bv nv what x c kv s r V) (h0 : 0 ≤ c) (h1 : c ≤ 255) : Calls Try.prog 12 #[.int .u8 c] V (RetD (.string (dataB c)) (Dx w0 nb p bm q bv nv what x c kv s r)) :=
  (data_any c V h0 h1).mono fun _ _ ⟨he, hb⟩ => ⟨he, h.below hb⟩
theorem dx_write (h : Dx w0 nb p bm q bv nv what x c kv s r V) {b : BA} (hn : s.more.length ≤ 1000000) : Calls Try.prog 11 #[.pointer (some ⟨p, 0, none⟩), .int .i64 x, .string b] V (TupI (writeR s x b).1 (Dx w0 nb p bm q bv nv what x c kv (writeR s x b).2 r)) :=
  (b_write h.1 hn).mono fun _ _ ⟨he, hs⟩ => ⟨he, h.step hs⟩
theorem dx_rwrite (h : Dx w0 nb p bm q bv nv what x c kv s r V) {b : BA} (hn : r.more.length ≤ 1000000) : Calls Try.prog 13 #[.pointer (some ⟨q, 0, none⟩), .int .i64 x, .string b] V (TupI (writeR r x b).1 (Dx w0 nb p bm q bv nv what x c kv s (writeR r x b).2)) :=
  (b_rwrite h.1 hn).mono fun _ _ ⟨he, hs⟩ => ⟨he, h.step hs⟩
theorem dx_flush (h : Dx w0 nb p bm q bv nv what x c kv s r V) : Calls Try.prog 17 #[.pointer (some ⟨p, 0, none⟩)] V (TupI (flushR s).1 (Dx w0 nb p bm q bv nv what x c kv (flushR s).2 r)) :=
  (b_flush h.1).mono fun _ _ ⟨he, hs⟩ => ⟨he, h.step hs⟩
theorem dx_rflush (h : Dx w0 nb p bm q bv nv what x c kv s r V) (hn : r.more.length ≤ 1000000) : Calls Try.prog 42 #[.pointer (some ⟨q, 0, none⟩)] V (TupI (flushR r).1 (Dx w0 nb p bm q bv nv what x c kv s (flushR r).2)) :=
  (b_rflush h.1 hn).mono fun _ _ ⟨he, hs⟩ => ⟨he, h.step hs⟩
theorem dx_arm (h : Dx w0 nb p bm q bv nv what x c kv s r V) (hx : x ≤ 9223372036854775807) : Calls Try.prog 22 #[.pointer (some ⟨p, 0, none⟩), .int .i64 x] V (Tup0 (Dx w0 nb p bm q bv nv what x c kv (armS s x) r)) :=
  (b_arm h.1 hx).mono fun _ _ ⟨he, hs⟩ => ⟨he, h.step hs⟩
theorem dx_rarm (h : Dx w0 nb p bm q bv nv what x c kv s r V) (hx : x ≤ 9223372036854775807) : Calls Try.prog 43 #[.pointer (some ⟨q, 0, none⟩), .int .i64 x] V (Tup0 (Dx w0 nb p bm q bv nv what x c kv s (armS r x))) :=
  (b_rarm h.1 hx).mono fun _ _ ⟨he, hs⟩ => ⟨he, h.step hs⟩
theorem dx_room (h : Dx w0 nb p bm q bv nv what x c kv s r V) (hx : x ≤ 9223372036854775807) : Calls Try.prog 25 #[.pointer (some ⟨p, 0, none⟩), .int .i64 x] V (Tup0 (Dx w0 nb p bm q bv nv what x c kv (roomS s x) r)) :=
  (b_room h.1 hx).mono fun _ _ ⟨he, hs⟩ => ⟨he, h.step hs⟩
theorem dx_rroom (h : Dx w0 nb p bm q bv nv what x c kv s r V) (hx : x ≤ 9223372036854775807) : Calls Try.prog 46 #[.pointer (some ⟨q, 0, none⟩), .int .i64 x] V (Tup0 (Dx w0 nb p bm q bv nv what x c kv s (roomS r x))) :=
  (b_rroom h.1 hx).mono fun _ _ ⟨he, hs⟩ => ⟨he, h.step hs⟩
theorem dx_off (h : Dx w0 nb p bm q bv nv what x c kv s r V) : Calls Try.prog 19 #[.pointer (some ⟨p, 0, none⟩)] V (Tup0 (Dx w0 nb p bm q bv nv what x c kv (offS s) r)) :=
  (b_off h.1).mono fun _ _ ⟨he, hs⟩ => ⟨he, h.step hs⟩
theorem dx_roff (h : Dx w0 nb p bm q bv nv what x c kv s r V) : Calls Try.prog 44 #[.pointer (some ⟨q, 0, none⟩)] V (Tup0 (Dx w0 nb p bm q bv nv what x c kv s (offS r))) :=
  (b_roff h.1).mono fun _ _ ⟨he, hs⟩ => ⟨he, h.step hs⟩
theorem dx_wake (h : Dx w0 nb p bm q bv nv what x c kv s r V) {ka : Option Addr} {kc n : Nat} {ks : List Bool} (hl : s.more.length ≤ 1000000) (hk : Lst encK 1 w0 ka ks) (hn : ks.length = n) : Calls Try.prog 20 #[.pointer (some ⟨p, 0, none⟩), .slice ka n kc] V (Tup0 (Dx w0 nb p bm q bv nv what x c kv (wakeS s ks) r)) :=
  (b_wake h.1 hl (hk.below h.1.bel) hn).mono fun _ _ ⟨he, hs⟩ => ⟨he, h.step hs⟩
theorem lst_old {ka : Option Addr} {ks : List Bool} (hk : Lst encK 1 w0 ka ks) (hn : 0 < ks.length) (b off : Nat) (e : ka = some ⟨b, off, none⟩) : b < w0.heap.size := by
  obtain ⟨b', off', e', hc⟩ := hk 0 hn
  rw [e] at e'
  obtain ⟨rfl, rfl⟩ : b = b' ∧ off = off' := by simpa using e'
  exact World.block_lt_of_cell? _ _ (hc 0 _ rfl)
theorem dx_rwake (h : Dx w0 nb p bm q bv nv what x c kv s r V) {ka : Option Addr} {kc n : Nat} {ks : List Bool} (hl : r.more.length ≤ 1000000) (hk : Lst encK 1 w0 ka ks) (hn : ks.length = n) : Calls Try.prog 45 #[.pointer (some ⟨q, 0, none⟩), .slice ka n kc] V (Tup0 (Dx w0 nb p bm q bv nv what x c kv s (wakeS r ks))) :=
  (b_rwake h.1 hl (hk.below h.1.bel) hn (fun h0 b off e => .inr (lst_old hk h0 b off e))).mono fun _ _ ⟨he, hs⟩ => ⟨he, h.step hs⟩
set_option linter.unusedVariables false in
set_option maxHeartbeats 4000000 in
set_option maxRecDepth 100000 in
theorem do_write0 (what x c : Int) (ka : Option Addr) (n kc : Nat) (ks : List Bool) (hw : what = 0) (h0 : 0 ≤ c) (h1 : c ≤ 255) (hx : x ≤ 9223372036854775807) (h : BE w0 w (fun _ => False) p bm q bv nv s s) (hn : s.more.length ≤ 1000000) (hks : Lst encK 1 w0 ka ks) (hkn : ks.length = n) : Calls Try.prog 27 #[.pointer (some ⟨p, 0, none⟩), .pointer (some ⟨q, 0, none⟩), .agg #[.int .i64 what, .int .i64 x, .int .u8 c, .slice ka n kc]] w (DoPost w0 p bm q bv nv (writeR s x (dataB c)).2) := by
  have D := Lib.hid (dx_new (what := what) (x := x) (c := c) (kv := .slice ka n kc) h)
  have HD := fun (s r : St) (V : World) (h : Dx w0 w.heap.size p bm q bv nv what x c (.slice ka n kc) s r V) => dx_data h h0 h1
  have HW := fun (r : St) (V : World) (h : Dx w0 w.heap.size p bm q bv nv what x c (.slice ka n kc) s r V) => dx_write (b := dataB c) h hn
  have HR := fun (r : St) (V : World) (h : Dx w0 w.heap.size p bm q bv nv what x c (.slice ka n kc) r s V) => dx_rwrite (b := dataB c) h hn
  have e0 : (what == 0) = true := by simp; omega
  generalize dataB c = B at *
  generalize (writeR s x B).1 = ee at *
  generalize (writeR s x B).2 = s1 at *
  have HD' := Lib.hid HD
  have HW' := Lib.hid HW
  have HR' := Lib.hid HR
  have hee : (ee == ee) = true := by simp
  have mixed : Try.prog.follows .mixedOrders = true := by kernel_rfl
  clear HD HW HR h hw hn hks hkn hx
  go_enter Try.func27, Try.ntmps27
  go_wp2_with fail
  generalize w.alloc (.cells #[.int .i64 what, .int .i64 x, .int .u8 c, .slice ka n kc] 55) = X at *
  generalize w.heap.size = nb at *
  obtain ⟨y0, y1⟩ := D.out.cells
  go_region_held3 (fun w' => w'.cell? ⟨nb, 1, none⟩ = some (.int .i64 x) ∧ w'.cell? ⟨nb, 2, none⟩ = some (.int .u8 c)) (first | exact Dx.cells (Hid.out N) | exact ⟨y0, y1⟩ | go_keep) (first
    | (have z := D; go_at_call 12; refine (HD'.out _ _ _ (D.out.below ((Below.refl _ X).drew))).mono ?_; rintro e w1 ⟨rfl, hD⟩; have N := Lib.hid hD; obtain ⟨x0, x1⟩ := hD.cells; clear hD z D y0 y1)
    | (have z := N; go_at_call 12; refine (HD'.out _ _ _ N.out).mono ?_; rintro e w1 ⟨rfl, hD⟩; have N' := Lib.hid hD; clear N z x0 x1; have N := N'; clear N'; obtain ⟨x0, x1⟩ := hD.cells; clear hD)
    | (have z := N; go_at_call 11; refine (HW'.out _ _ N.out).mono ?_; rintro e w1 ⟨rfl, hD⟩; have N' := Lib.hid hD; clear N z x0 x1; have N := N'; clear N'; obtain ⟨x0, x1⟩ := hD.cells; clear hD)
    | (have z := N; go_at_call 13; refine (HR'.out _ _ N.out).mono ?_; rintro e w1 ⟨rfl, hD⟩; have N' := Lib.hid hD; clear N z x0 x1; have N := N'; clear N'; obtain ⟨x0, x1⟩ := hD.cells; clear hD))
  all_goals (
    go_wp2
    go_ret
    exact ⟨rfl, N.out.done⟩)
set_option linter.unusedVariables false in
set_option maxHeartbeats 4000000 in
set_option maxRecDepth 100000 in
theorem do_write1 (what x c : Int) (ka : Option Addr) (n kc : Nat) (ks : List Bool) (hw : what = 1) (h0 : 0 ≤ c) (h1 : c ≤ 255) (hx : x ≤ 9223372036854775807) (h : BE w0 w (fun _ => False) p bm q bv nv s s) (hn : s.more.length ≤ 1000000) (hks : Lst encK 1 w0 ka ks) (hkn : ks.length = n) : Calls Try.prog 27 #[.pointer (some ⟨p, 0, none⟩), .pointer (some ⟨q, 0, none⟩), .agg #[.int .i64 what, .int .i64 x, .int .u8 c, .slice ka n kc]] w (DoPost w0 p bm q bv nv (writeR s x (dataB c)).2) := by
  have D := Lib.hid (dx_new (what := what) (x := x) (c := c) (kv := .slice ka n kc) h)
  have HD := fun (s r : St) (V : World) (h : Dx w0 w.heap.size p bm q bv nv what x c (.slice ka n kc) s r V) => dx_data h h0 h1
  have HW := fun (r : St) (V : World) (h : Dx w0 w.heap.size p bm q bv nv what x c (.slice ka n kc) s r V) => dx_write (b := dataB c) h hn
  have HR := fun (r : St) (V : World) (h : Dx w0 w.heap.size p bm q bv nv what x c (.slice ka n kc) r s V) => dx_rwrite (b := dataB c) h hn
  have e0 : (what == 0) = false := by simp; omega
  have e1 : (what == 1) = true := by simp; omega
  generalize dataB c = B at *
  generalize (writeR s x B).1 = ee at *
  generalize (writeR s x B).2 = s1 at *
  have HD' := Lib.hid HD
  have HW' := Lib.hid HW
  have HR' := Lib.hid HR
  have hee : (ee == ee) = true := by simp
  have mixed : Try.prog.follows .mixedOrders = true := by kernel_rfl
  clear HD HW HR h hw hn hks hkn hx
  go_enter Try.func27, Try.ntmps27
  go_wp2_with fail
  generalize w.alloc (.cells #[.int .i64 what, .int .i64 x, .int .u8 c, .slice ka n kc] 55) = X at *
  generalize w.heap.size = nb at *
  obtain ⟨y0, y1⟩ := D.out.cells
  go_region_held3 (fun w' => w'.cell? ⟨nb, 1, none⟩ = some (.int .i64 x) ∧ w'.cell? ⟨nb, 2, none⟩ = some (.int .u8 c)) (first | exact Dx.cells (Hid.out N) | exact ⟨y0, y1⟩ | go_keep) (first
    | (have z := D; go_at_call 12; refine (HD'.out _ _ _ (D.out.below ((Below.refl _ X).drew))).mono ?_; rintro e w1 ⟨rfl, hD⟩; have N := Lib.hid hD; obtain ⟨x0, x1⟩ := hD.cells; clear hD z D y0 y1)
    | (have z := N; go_at_call 12; refine (HD'.out _ _ _ N.out).mono ?_; rintro e w1 ⟨rfl, hD⟩; have N' := Lib.hid hD; clear N z x0 x1; have N := N'; clear N'; obtain ⟨x0, x1⟩ := hD.cells; clear hD)
    | (have z := N; go_at_call 11; refine (HW'.out _ _ N.out).mono ?_; rintro e w1 ⟨rfl, hD⟩; have N' := Lib.hid hD; clear N z x0 x1; have N := N'; clear N'; obtain ⟨x0, x1⟩ := hD.cells; clear hD)
    | (have z := N; go_at_call 13; refine (HR'.out _ _ N.out).mono ?_; rintro e w1 ⟨rfl, hD⟩; have N' := Lib.hid hD; clear N z x0 x1; have N := N'; clear N'; obtain ⟨x0, x1⟩ := hD.cells; clear hD))
  all_goals (
    go_wp2
    go_ret
    exact ⟨rfl, N.out.done⟩)
set_option linter.unusedVariables false in
set_option maxHeartbeats 4000000 in
set_option maxRecDepth 100000 in
theorem do_write2 (what x c : Int) (ka : Option Addr) (n kc : Nat) (ks : List Bool) (hw : what = 2) (h0 : 0 ≤ c) (h1 : c ≤ 255) (hx : x ≤ 9223372036854775807) (h : BE w0 w (fun _ => False) p bm q bv nv s s) (hn : s.more.length ≤ 1000000) (hks : Lst encK 1 w0 ka ks) (hkn : ks.length = n) : Calls Try.prog 27 #[.pointer (some ⟨p, 0, none⟩), .pointer (some ⟨q, 0, none⟩), .agg #[.int .i64 what, .int .i64 x, .int .u8 c, .slice ka n kc]] w (DoPost w0 p bm q bv nv (writeR s x (dataB c)).2) := by
  have D := Lib.hid (dx_new (what := what) (x := x) (c := c) (kv := .slice ka n kc) h)
  have HD := fun (s r : St) (V : World) (h : Dx w0 w.heap.size p bm q bv nv what x c (.slice ka n kc) s r V) => dx_data h h0 h1
  have HW := fun (r : St) (V : World) (h : Dx w0 w.heap.size p bm q bv nv what x c (.slice ka n kc) s r V) => dx_write (b := dataB c) h hn
  have HR := fun (r : St) (V : World) (h : Dx w0 w.heap.size p bm q bv nv what x c (.slice ka n kc) r s V) => dx_rwrite (b := dataB c) h hn
  have e0 : (what == 0) = false := by simp; omega
  have e1 : (what == 1) = false := by simp; omega
  have e2 : (what == 2) = true := by simp; omega
  generalize dataB c = B at *
  generalize (writeR s x B).1 = ee at *
  generalize (writeR s x B).2 = s1 at *
  have HD' := Lib.hid HD
  have HW' := Lib.hid HW
  have HR' := Lib.hid HR
  have hee : (ee == ee) = true := by simp
  have mixed : Try.prog.follows .mixedOrders = true := by kernel_rfl
  clear HD HW HR h hw hn hks hkn hx
  go_enter Try.func27, Try.ntmps27
  go_wp2_with fail
  generalize w.alloc (.cells #[.int .i64 what, .int .i64 x, .int .u8 c, .slice ka n kc] 55) = X at *
  generalize w.heap.size = nb at *
  obtain ⟨y0, y1⟩ := D.out.cells
  go_region_held3 (fun w' => w'.cell? ⟨nb, 1, none⟩ = some (.int .i64 x) ∧ w'.cell? ⟨nb, 2, none⟩ = some (.int .u8 c)) (first | exact Dx.cells (Hid.out N) | exact ⟨y0, y1⟩ | go_keep) (first
    | (have z := D; go_at_call 12; refine (HD'.out _ _ _ (D.out.below ((Below.refl _ X).drew))).mono ?_; rintro e w1 ⟨rfl, hD⟩; have N := Lib.hid hD; obtain ⟨x0, x1⟩ := hD.cells; clear hD z D y0 y1)
    | (have z := N; go_at_call 12; refine (HD'.out _ _ _ N.out).mono ?_; rintro e w1 ⟨rfl, hD⟩; have N' := Lib.hid hD; clear N z x0 x1; have N := N'; clear N'; obtain ⟨x0, x1⟩ := hD.cells; clear hD)
    | (have z := N; go_at_call 11; refine (HW'.out _ _ N.out).mono ?_; rintro e w1 ⟨rfl, hD⟩; have N' := Lib.hid hD; clear N z x0 x1; have N := N'; clear N'; obtain ⟨x0, x1⟩ := hD.cells; clear hD)
    | (have z := N; go_at_call 13; refine (HR'.out _ _ N.out).mono ?_; rintro e w1 ⟨rfl, hD⟩; have N' := Lib.hid hD; clear N z x0 x1; have N := N'; clear N'; obtain ⟨x0, x1⟩ := hD.cells; clear hD))
  all_goals (
    go_wp2
    go_ret
    exact ⟨rfl, N.out.done⟩)
set_option linter.unusedVariables false in
set_option maxHeartbeats 4000000 in
set_option maxRecDepth 100000 in
theorem do_write3 (what x c : Int) (ka : Option Addr) (n kc : Nat) (ks : List Bool) (hw : what = 3) (h0 : 0 ≤ c) (h1 : c ≤ 255) (hx : x ≤ 9223372036854775807) (h : BE w0 w (fun _ => False) p bm q bv nv s s) (hn : s.more.length ≤ 1000000) (hks : Lst encK 1 w0 ka ks) (hkn : ks.length = n) : Calls Try.prog 27 #[.pointer (some ⟨p, 0, none⟩), .pointer (some ⟨q, 0, none⟩), .agg #[.int .i64 what, .int .i64 x, .int .u8 c, .slice ka n kc]] w (DoPost w0 p bm q bv nv (writeR s x (dataB c)).2) := by
  have D := Lib.hid (dx_new (what := what) (x := x) (c := c) (kv := .slice ka n kc) h)
  have HD := fun (s r : St) (V : World) (h : Dx w0 w.heap.size p bm q bv nv what x c (.slice ka n kc) s r V) => dx_data h h0 h1
  have HW := fun (r : St) (V : World) (h : Dx w0 w.heap.size p bm q bv nv what x c (.slice ka n kc) s r V) => dx_write (b := dataB c) h hn
  have HR := fun (r : St) (V : World) (h : Dx w0 w.heap.size p bm q bv nv what x c (.slice ka n kc) r s V) => dx_rwrite (b := dataB c) h hn
  have e0 : (what == 0) = false := by simp; omega
  have e1 : (what == 1) = false := by simp; omega
  have e2 : (what == 2) = false := by simp; omega
  have e3 : (what == 3) = true := by simp; omega
  generalize dataB c = B at *
  generalize (writeR s x B).1 = ee at *
  generalize (writeR s x B).2 = s1 at *
  have HD' := Lib.hid HD
  have HW' := Lib.hid HW
  have HR' := Lib.hid HR
  have hee : (ee == ee) = true := by simp
  have mixed : Try.prog.follows .mixedOrders = true := by kernel_rfl
  clear HD HW HR h hw hn hks hkn hx
  go_enter Try.func27, Try.ntmps27
  go_wp2_with fail
  generalize w.alloc (.cells #[.int .i64 what, .int .i64 x, .int .u8 c, .slice ka n kc] 55) = X at *
  generalize w.heap.size = nb at *
  obtain ⟨y0, y1⟩ := D.out.cells
  go_region_held3 (fun w' => w'.cell? ⟨nb, 1, none⟩ = some (.int .i64 x) ∧ w'.cell? ⟨nb, 2, none⟩ = some (.int .u8 c)) (first | exact Dx.cells (Hid.out N) | exact ⟨y0, y1⟩ | go_keep) (first
    | (have z := D; go_at_call 12; refine (HD'.out _ _ _ (D.out.below ((Below.refl _ X).drew))).mono ?_; rintro e w1 ⟨rfl, hD⟩; have N := Lib.hid hD; obtain ⟨x0, x1⟩ := hD.cells; clear hD z D y0 y1)
    | (have z := N; go_at_call 12; refine (HD'.out _ _ _ N.out).mono ?_; rintro e w1 ⟨rfl, hD⟩; have N' := Lib.hid hD; clear N z x0 x1; have N := N'; clear N'; obtain ⟨x0, x1⟩ := hD.cells; clear hD)
    | (have z := N; go_at_call 11; refine (HW'.out _ _ N.out).mono ?_; rintro e w1 ⟨rfl, hD⟩; have N' := Lib.hid hD; clear N z x0 x1; have N := N'; clear N'; obtain ⟨x0, x1⟩ := hD.cells; clear hD)
    | (have z := N; go_at_call 13; refine (HR'.out _ _ N.out).mono ?_; rintro e w1 ⟨rfl, hD⟩; have N' := Lib.hid hD; clear N z x0 x1; have N := N'; clear N'; obtain ⟨x0, x1⟩ := hD.cells; clear hD))
  all_goals (
    go_wp2
    go_ret
    exact ⟨rfl, N.out.done⟩)
set_option linter.unusedVariables false in
set_option maxHeartbeats 4000000 in
set_option maxRecDepth 100000 in
theorem do_flush (what x c : Int) (ka : Option Addr) (n kc : Nat) (ks : List Bool) (hw : what = 4) (h0 : 0 ≤ c) (h1 : c ≤ 255) (hx : x ≤ 9223372036854775807) (h : BE w0 w (fun _ => False) p bm q bv nv s s) (hn : s.more.length ≤ 1000000) (hks : Lst encK 1 w0 ka ks) (hkn : ks.length = n) : Calls Try.prog 27 #[.pointer (some ⟨p, 0, none⟩), .pointer (some ⟨q, 0, none⟩), .agg #[.int .i64 what, .int .i64 x, .int .u8 c, .slice ka n kc]] w (DoPost w0 p bm q bv nv (flushR s).2) := by
  have D := Lib.hid (dx_new (what := what) (x := x) (c := c) (kv := .slice ka n kc) h)
  have HA := Lib.hid (fun (V : World) (h : Dx w0 w.heap.size p bm q bv nv what x c (.slice ka n kc) s s V) => dx_flush h)
  have HB := Lib.hid (fun (V : World) (h : Dx w0 w.heap.size p bm q bv nv what x c (.slice ka n kc) (flushR s).2 s V) => dx_rflush h hn)
  have e0 : (what == 0) = false := by simp; omega
  have e1 : (what == 1) = false := by simp; omega
  have e2 : (what == 2) = false := by simp; omega
  have e3 : (what == 3) = false := by simp; omega
  have e4 : (what == 4) = true := by simp; omega
  generalize (flushR s).1 = ee at *
  generalize (flushR s).2 = s1 at *
  have hee : (ee == ee) = true := by simp
  clear h hw hn hks hkn hx
  go_enter Try.func27, Try.ntmps27
  go_wp2_with fail
  generalize w.alloc (.cells #[.int .i64 what, .int .i64 x, .int .u8 c, .slice ka n kc] 55) = X at *
  generalize w.heap.size = nb at *
  obtain ⟨y0, y1, y2, y3⟩ := D.out.all
  go_wp2_with (first
    | (go_at_call 17; refine (HA.out _ D.out).mono ?_; rintro e w1 ⟨rfl, hD⟩; have N := Lib.hid hD; clear D y0 y1 y2 y3; obtain ⟨y0, y1, y2, y3⟩ := hD.all; clear hD)
    | (go_at_call 42; refine (HB.out _ N.out).mono ?_; rintro e w2 ⟨rfl, hD⟩; have M := Lib.hid hD; clear N y0 y1 y2 y3; obtain ⟨y0, y1, y2, y3⟩ := hD.all; clear hD))
  go_ret
  exact ⟨rfl, M.out.done⟩
set_option linter.unusedVariables false in
set_option maxHeartbeats 4000000 in
set_option maxRecDepth 100000 in
theorem do_arm (what x c : Int) (ka : Option Addr) (n kc : Nat) (ks : List Bool) (hw : what = 5) (h0 : 0 ≤ c) (h1 : c ≤ 255) (hx : x ≤ 9223372036854775807) (h : BE w0 w (fun _ => False) p bm q bv nv s s) (hn : s.more.length ≤ 1000000) (hks : Lst encK 1 w0 ka ks) (hkn : ks.length = n) : Calls Try.prog 27 #[.pointer (some ⟨p, 0, none⟩), .pointer (some ⟨q, 0, none⟩), .agg #[.int .i64 what, .int .i64 x, .int .u8 c, .slice ka n kc]] w (DoPost w0 p bm q bv nv (armS s x)) := by
  have D := Lib.hid (dx_new (what := what) (x := x) (c := c) (kv := .slice ka n kc) h)
  have HA := Lib.hid (fun (V : World) (h : Dx w0 w.heap.size p bm q bv nv what x c (.slice ka n kc) s s V) => dx_arm h hx)
  have HB := Lib.hid (fun (V : World) (h : Dx w0 w.heap.size p bm q bv nv what x c (.slice ka n kc) (armS s x) s V) => dx_rarm h hx)
  have e0 : (what == 0) = false := by simp; omega
  have e1 : (what == 1) = false := by simp; omega
  have e2 : (what == 2) = false := by simp; omega
  have e3 : (what == 3) = false := by simp; omega
  have e4 : (what == 4) = false := by simp; omega
  have e5 : (what == 5) = true := by simp; omega
  generalize armS s x = s1 at *
  clear h hw hn hks hkn hx
  go_enter Try.func27, Try.ntmps27
  go_wp2_with fail
  generalize w.alloc (.cells #[.int .i64 what, .int .i64 x, .int .u8 c, .slice ka n kc] 55) = X at *
  generalize w.heap.size = nb at *
  obtain ⟨y0, y1, y2, y3⟩ := D.out.all
  go_wp2_with (first
    | (go_at_call 22; refine (HA.out _ D.out).mono ?_; rintro e w1 ⟨rfl, hD⟩; have N := Lib.hid hD; clear D y0 y1 y2 y3; obtain ⟨y0, y1, y2, y3⟩ := hD.all; clear hD)
    | (go_at_call 43; refine (HB.out _ N.out).mono ?_; rintro e w2 ⟨rfl, hD⟩; have M := Lib.hid hD; clear N y0 y1 y2 y3; obtain ⟨y0, y1, y2, y3⟩ := hD.all; clear hD))
  go_ret
  exact ⟨rfl, M.out.done⟩
set_option linter.unusedVariables false in
set_option maxHeartbeats 4000000 in
set_option maxRecDepth 100000 in
theorem do_off (what x c : Int) (ka : Option Addr) (n kc : Nat) (ks : List Bool) (hw : what = 6) (h0 : 0 ≤ c) (h1 : c ≤ 255) (hx : x ≤ 9223372036854775807) (h : BE w0 w (fun _ => False) p bm q bv nv s s) (hn : s.more.length ≤ 1000000) (hks : Lst encK 1 w0 ka ks) (hkn : ks.length = n) : Calls Try.prog 27 #[.pointer (some ⟨p, 0, none⟩), .pointer (some ⟨q, 0, none⟩), .agg #[.int .i64 what, .int .i64 x, .int .u8 c, .slice ka n kc]] w (DoPost w0 p bm q bv nv (offS s)) := by
  have D := Lib.hid (dx_new (what := what) (x := x) (c := c) (kv := .slice ka n kc) h)
  have HA := Lib.hid (fun (V : World) (h : Dx w0 w.heap.size p bm q bv nv what x c (.slice ka n kc) s s V) => dx_off h)
  have HB := Lib.hid (fun (V : World) (h : Dx w0 w.heap.size p bm q bv nv what x c (.slice ka n kc) (offS s) s V) => dx_roff h)
  have e0 : (what == 0) = false := by simp; omega
  have e1 : (what == 1) = false := by simp; omega
  have e2 : (what == 2) = false := by simp; omega
  have e3 : (what == 3) = false := by simp; omega
  have e4 : (what == 4) = false := by simp; omega
  have e5 : (what == 5) = false := by simp; omega
  have e6 : (what == 6) = true := by simp; omega
  generalize offS s = s1 at *
  clear h hw hn hks hkn hx
  go_enter Try.func27, Try.ntmps27
  go_wp2_with fail
  generalize w.alloc (.cells #[.int .i64 what, .int .i64 x, .int .u8 c, .slice ka n kc] 55) = X at *
  generalize w.heap.size = nb at *
  obtain ⟨y0, y1, y2, y3⟩ := D.out.all
  go_wp2_with (first
    | (go_at_call 19; refine (HA.out _ D.out).mono ?_; rintro e w1 ⟨rfl, hD⟩; have N := Lib.hid hD; clear D y0 y1 y2 y3; obtain ⟨y0, y1, y2, y3⟩ := hD.all; clear hD)
    | (go_at_call 44; refine (HB.out _ N.out).mono ?_; rintro e w2 ⟨rfl, hD⟩; have M := Lib.hid hD; clear N y0 y1 y2 y3; obtain ⟨y0, y1, y2, y3⟩ := hD.all; clear hD))
  go_ret
  exact ⟨rfl, M.out.done⟩
set_option linter.unusedVariables false in
set_option maxHeartbeats 4000000 in
set_option maxRecDepth 100000 in
theorem do_wake7 (what x c : Int) (ka : Option Addr) (n kc : Nat) (ks : List Bool) (hw : what = 7) (h0 : 0 ≤ c) (h1 : c ≤ 255) (hx : x ≤ 9223372036854775807) (h : BE w0 w (fun _ => False) p bm q bv nv s s) (hn : s.more.length ≤ 1000000) (hks : Lst encK 1 w0 ka ks) (hkn : ks.length = n) : Calls Try.prog 27 #[.pointer (some ⟨p, 0, none⟩), .pointer (some ⟨q, 0, none⟩), .agg #[.int .i64 what, .int .i64 x, .int .u8 c, .slice ka n kc]] w (DoPost w0 p bm q bv nv (wakeS s ks)) := by
  have D := Lib.hid (dx_new (what := what) (x := x) (c := c) (kv := .slice ka n kc) h)
  have HA := Lib.hid (fun (V : World) (h : Dx w0 w.heap.size p bm q bv nv what x c (.slice ka n kc) s s V) => dx_wake (kc := kc) h hn hks hkn)
  have HB := Lib.hid (fun (V : World) (h : Dx w0 w.heap.size p bm q bv nv what x c (.slice ka n kc) (wakeS s ks) s V) => dx_rwake (kc := kc) h hn hks hkn)
  have e0 : (what == 0) = false := by simp; omega
  have e1 : (what == 1) = false := by simp; omega
  have e2 : (what == 2) = false := by simp; omega
  have e3 : (what == 3) = false := by simp; omega
  have e4 : (what == 4) = false := by simp; omega
  have e5 : (what == 5) = false := by simp; omega
  have e6 : (what == 6) = false := by simp; omega
  have e7 : (what == 7) = true := by simp; omega
  generalize wakeS s ks = s1 at *
  clear h hw hn hks hkn hx
  go_enter Try.func27, Try.ntmps27
  go_wp2_with fail
  generalize w.alloc (.cells #[.int .i64 what, .int .i64 x, .int .u8 c, .slice ka n kc] 55) = X at *
  generalize w.heap.size = nb at *
  obtain ⟨y0, y1, y2, y3⟩ := D.out.all
  go_wp2_with (first
    | (go_at_call 20; refine (HA.out _ D.out).mono ?_; rintro e w1 ⟨rfl, hD⟩; have N := Lib.hid hD; clear D y0 y1 y2 y3; obtain ⟨y0, y1, y2, y3⟩ := hD.all; clear hD)
    | (go_at_call 45; refine (HB.out _ N.out).mono ?_; rintro e w2 ⟨rfl, hD⟩; have M := Lib.hid hD; clear N y0 y1 y2 y3; obtain ⟨y0, y1, y2, y3⟩ := hD.all; clear hD))
  go_ret
  exact ⟨rfl, M.out.done⟩
set_option linter.unusedVariables false in
set_option maxHeartbeats 4000000 in
set_option maxRecDepth 100000 in
theorem do_wake8 (what x c : Int) (ka : Option Addr) (n kc : Nat) (ks : List Bool) (hw : what = 8) (h0 : 0 ≤ c) (h1 : c ≤ 255) (hx : x ≤ 9223372036854775807) (h : BE w0 w (fun _ => False) p bm q bv nv s s) (hn : s.more.length ≤ 1000000) (hks : Lst encK 1 w0 ka ks) (hkn : ks.length = n) : Calls Try.prog 27 #[.pointer (some ⟨p, 0, none⟩), .pointer (some ⟨q, 0, none⟩), .agg #[.int .i64 what, .int .i64 x, .int .u8 c, .slice ka n kc]] w (DoPost w0 p bm q bv nv (wakeS s ks)) := by
  have D := Lib.hid (dx_new (what := what) (x := x) (c := c) (kv := .slice ka n kc) h)
  have HA := Lib.hid (fun (V : World) (h : Dx w0 w.heap.size p bm q bv nv what x c (.slice ka n kc) s s V) => dx_wake (kc := kc) h hn hks hkn)
  have HB := Lib.hid (fun (V : World) (h : Dx w0 w.heap.size p bm q bv nv what x c (.slice ka n kc) (wakeS s ks) s V) => dx_rwake (kc := kc) h hn hks hkn)
  have e0 : (what == 0) = false := by simp; omega
  have e1 : (what == 1) = false := by simp; omega
  have e2 : (what == 2) = false := by simp; omega
  have e3 : (what == 3) = false := by simp; omega
  have e4 : (what == 4) = false := by simp; omega
  have e5 : (what == 5) = false := by simp; omega
  have e6 : (what == 6) = false := by simp; omega
  have e7 : (what == 7) = false := by simp; omega
  have e8 : (what == 8) = true := by simp; omega
  generalize wakeS s ks = s1 at *
  clear h hw hn hks hkn hx
  go_enter Try.func27, Try.ntmps27
  go_wp2_with fail
  generalize w.alloc (.cells #[.int .i64 what, .int .i64 x, .int .u8 c, .slice ka n kc] 55) = X at *
  generalize w.heap.size = nb at *
  obtain ⟨y0, y1, y2, y3⟩ := D.out.all
  go_wp2_with (first
    | (go_at_call 20; refine (HA.out _ D.out).mono ?_; rintro e w1 ⟨rfl, hD⟩; have N := Lib.hid hD; clear D y0 y1 y2 y3; obtain ⟨y0, y1, y2, y3⟩ := hD.all; clear hD)
    | (go_at_call 45; refine (HB.out _ N.out).mono ?_; rintro e w2 ⟨rfl, hD⟩; have M := Lib.hid hD; clear N y0 y1 y2 y3; obtain ⟨y0, y1, y2, y3⟩ := hD.all; clear hD))
  go_ret
  exact ⟨rfl, M.out.done⟩
set_option linter.unusedVariables false in
set_option maxHeartbeats 4000000 in
set_option maxRecDepth 100000 in
theorem do_room (what x c : Int) (ka : Option Addr) (n kc : Nat) (ks : List Bool) (hw : what = 9) (h0 : 0 ≤ c) (h1 : c ≤ 255) (hx : x ≤ 9223372036854775807) (h : BE w0 w (fun _ => False) p bm q bv nv s s) (hn : s.more.length ≤ 1000000) (hks : Lst encK 1 w0 ka ks) (hkn : ks.length = n) : Calls Try.prog 27 #[.pointer (some ⟨p, 0, none⟩), .pointer (some ⟨q, 0, none⟩), .agg #[.int .i64 what, .int .i64 x, .int .u8 c, .slice ka n kc]] w (DoPost w0 p bm q bv nv (roomS s x)) := by
  have D := Lib.hid (dx_new (what := what) (x := x) (c := c) (kv := .slice ka n kc) h)
  have HA := Lib.hid (fun (V : World) (h : Dx w0 w.heap.size p bm q bv nv what x c (.slice ka n kc) s s V) => dx_room h hx)
  have HB := Lib.hid (fun (V : World) (h : Dx w0 w.heap.size p bm q bv nv what x c (.slice ka n kc) (roomS s x) s V) => dx_rroom h hx)
  have e0 : (what == 0) = false := by simp; omega
  have e1 : (what == 1) = false := by simp; omega
  have e2 : (what == 2) = false := by simp; omega
  have e3 : (what == 3) = false := by simp; omega
  have e4 : (what == 4) = false := by simp; omega
  have e5 : (what == 5) = false := by simp; omega
  have e6 : (what == 6) = false := by simp; omega
  have e7 : (what == 7) = false := by simp; omega
  have e8 : (what == 8) = false := by simp; omega
  have e9 : (what == 9) = true := by simp; omega
  generalize roomS s x = s1 at *
  clear h hw hn hks hkn hx
  go_enter Try.func27, Try.ntmps27
  go_wp2_with fail
  generalize w.alloc (.cells #[.int .i64 what, .int .i64 x, .int .u8 c, .slice ka n kc] 55) = X at *
  generalize w.heap.size = nb at *
  obtain ⟨y0, y1, y2, y3⟩ := D.out.all
  go_wp2_with (first
    | (go_at_call 25; refine (HA.out _ D.out).mono ?_; rintro e w1 ⟨rfl, hD⟩; have N := Lib.hid hD; clear D y0 y1 y2 y3; obtain ⟨y0, y1, y2, y3⟩ := hD.all; clear hD)
    | (go_at_call 46; refine (HB.out _ N.out).mono ?_; rintro e w2 ⟨rfl, hD⟩; have M := Lib.hid hD; clear N y0 y1 y2 y3; obtain ⟨y0, y1, y2, y3⟩ := hD.all; clear hD))
  go_ret
  exact ⟨rfl, M.out.done⟩
set_option linter.unusedVariables false in
set_option maxHeartbeats 4000000 in
set_option maxRecDepth 100000 in
theorem do_none (what x c : Int) (ka : Option Addr) (n kc : Nat) (ks : List Bool) (hw : what < 0 ∨ 9 < what) (h0 : 0 ≤ c) (h1 : c ≤ 255) (hx : x ≤ 9223372036854775807) (h : BE w0 w (fun _ => False) p bm q bv nv s s) (hn : s.more.length ≤ 1000000) (hks : Lst encK 1 w0 ka ks) (hkn : ks.length = n) : Calls Try.prog 27 #[.pointer (some ⟨p, 0, none⟩), .pointer (some ⟨q, 0, none⟩), .agg #[.int .i64 what, .int .i64 x, .int .u8 c, .slice ka n kc]] w (DoPost w0 p bm q bv nv s) := by
  have D := Lib.hid (dx_new (what := what) (x := x) (c := c) (kv := .slice ka n kc) h)
  have e0 : (what == 0) = false := by simp; omega
  have e1 : (what == 1) = false := by simp; omega
  have e2 : (what == 2) = false := by simp; omega
  have e3 : (what == 3) = false := by simp; omega
  have e4 : (what == 4) = false := by simp; omega
  have e5 : (what == 5) = false := by simp; omega
  have e6 : (what == 6) = false := by simp; omega
  have e7 : (what == 7) = false := by simp; omega
  have e8 : (what == 8) = false := by simp; omega
  have e9 : (what == 9) = false := by simp; omega
  clear h hw hn hks hkn hx
  go_enter Try.func27, Try.ntmps27
  go_wp2_with fail
  go_ret
  exact ⟨rfl, D.out.done⟩
end Go.Proofs.Ytcgkdomfbkkboaa
