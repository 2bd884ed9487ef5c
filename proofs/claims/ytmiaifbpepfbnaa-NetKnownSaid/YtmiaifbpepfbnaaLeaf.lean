/- The small functions of a net and of its reference. -/
import Derived.Test.YtmiaifbpepfbnaaObj
import Derived.Laws.LoneSync
import Derived.Laws.StructEq
import Derived.Laws.ResultCell
namespace Go.Proofs.Ytmiaifbpepfbnaa
open Go.RowKit Go.Joins Go.ChangeMaps

theorem twoT {n a b : Int} (h : a ≠ b ∧ 0 ≤ min a b ∧ max a b < n) : true = twoB n a b := (twoB_spec.2 h).symm
theorem twoF {n a b : Int} (h : ¬ (a ≠ b ∧ 0 ≤ min a b ∧ max a b < n)) : false = twoB n a b := (Bool.eq_false_iff.2 fun c => h (twoB_spec.1 c)).symm
set_option maxRecDepth 100000 in
theorem two_any (p : Nat) (a b n : Int) (w : World) (h0 : w.cell? ⟨p, 0, none⟩ = some (.int .i64 n)) : Calls Try.prog 26 #[.pointer (some ⟨p, 0, none⟩), .int .i64 a, .int .i64 b] w (SameB (twoB n a b) w) := by
  by_cases h1 : a = b
  · subst h1
    have hb : (a != a) = false := by simp
    go_enter Try.func26, Try.ntmps26
    go_wp2
    go_ret
    exact sameB (by simp [twoB])
  · have hb : (a != b) = true := by simpa using h1
    have H1 := Lib.hid h1
    by_cases hl : a < b
    · have hl2 : a ≤ b := by omega
      clear h1
      by_cases h2 : 0 ≤ a
      · by_cases h3 : b < n
        · go_enter Try.func26, Try.ntmps26
          go_wp2
          go_ret
          exact sameB (by first | exact twoT (by omega) | exact twoF (by omega) | (rw [Bool.eq_iff_iff, twoB_spec, decide_eq_true_eq]; omega))
        · have h3' : n ≤ b := by omega
          clear h3
          go_enter Try.func26, Try.ntmps26
          go_wp2
          go_ret
          exact sameB (by first | exact twoT (by omega) | exact twoF (by omega) | (rw [Bool.eq_iff_iff, twoB_spec, decide_eq_true_eq]; omega))
      · have h2' : a < 0 := by omega
        clear h2
        go_enter Try.func26, Try.ntmps26
        go_wp2
        go_ret
        exact sameB (by first | exact twoT (by omega) | exact twoF (by omega) | (rw [Bool.eq_iff_iff, twoB_spec, decide_eq_true_eq]; omega))
    · have hl2 : b < a := by omega
      have hl3 : b ≤ a := by omega
      clear h1 hl
      by_cases h2 : 0 ≤ b
      · by_cases h3 : a < n
        · go_enter Try.func26, Try.ntmps26
          go_wp2
          go_ret
          exact sameB (by first | exact twoT (by omega) | exact twoF (by omega) | (rw [Bool.eq_iff_iff, twoB_spec, decide_eq_true_eq]; omega))
        · have h3' : n ≤ a := by omega
          clear h3
          go_enter Try.func26, Try.ntmps26
          go_wp2
          go_ret
          exact sameB (by first | exact twoT (by omega) | exact twoF (by omega) | (rw [Bool.eq_iff_iff, twoB_spec, decide_eq_true_eq]; omega))
      · have h2' : b < 0 := by omega
        clear h2
        go_enter Try.func26, Try.ntmps26
        go_wp2
        go_ret
        exact sameB (by first | exact twoT (by omega) | exact twoF (by omega) | (rw [Bool.eq_iff_iff, twoB_spec, decide_eq_true_eq]; omega))
set_option maxRecDepth 100000 in
theorem two_nil (a b : Int) (w : World) : Calls Try.prog 26 #[.pointer none, .int .i64 a, .int .i64 b] w (SameB false w) := by
  go_enter Try.func26, Try.ntmps26
  go_wp2
  go_ret
  exact sameB rfl
def RetV (v : Value) (w : World) (e : Ending) (w' : World) : Prop := e = .returned v ∧ Below w.heap.size w w'
theorem retV {v u : Value} {w w' : World} (h : u = v) (hb : Below w.heap.size w w') : RetV v w (.returned u) w' := ⟨by rw [h], hb⟩
theorem bel1 (w : World) (o : Obj) : Below w.heap.size w (w.alloc o) := (Below.refl _ w).alloc (Nat.le_refl _) o
set_option maxRecDepth 100000 in
theorem link_any (a b : Int) (w : World) : Calls Try.prog 31 #[.int .i64 a, .int .i64 b] w (RetV (.agg #[.int .i64 (lk a b).1, .int .i64 (lk a b).2]) w) := by
  by_cases hl : a < b
  · have hl2 : a ≤ b := by omega
    have e : lk a b = (a, b) := by simp [lk]; omega
    rw [e]
    go_enter Try.func31, Try.ntmps31
    go_wp2
    refine bodyPost_ret (results_cell_row (fn := Try.f31) rfl _ _ w.heap.size 60 _ (0, 0) _ rfl (heap_alloc_new w _) Try.underlying60 rfl (by kernel_rfl)) rfl ?_
    exact retV rfl (bel1 _ _)
  · have hl2 : b ≤ a := by omega
    by_cases he : a = b
    · subst he
      have e : lk a a = (a, a) := by simp [lk]
      have hle : a ≤ a := by omega
      rw [e]
      go_enter Try.func31, Try.ntmps31
      go_wp2
      all_goals (refine bodyPost_ret (results_cell_row (fn := Try.f31) rfl _ _ w.heap.size 60 _ (0, 0) _ rfl (heap_alloc_new w _) Try.underlying60 rfl (by kernel_rfl)) rfl ?_; exact retV rfl (bel1 _ _))
    · have hl3 : b < a := by omega
      have e : lk a b = (b, a) := by simp [lk]; omega
      rw [e]
      clear hl he
      go_enter Try.func31, Try.ntmps31
      go_wp2
      all_goals (refine bodyPost_ret (results_cell_row (fn := Try.f31) rfl _ _ w.heap.size 60 _ (0, 0) _ rfl (heap_alloc_new w _) Try.underlying60 rfl (by kernel_rfl)) rfl ?_; exact retV rfl (bel1 _ _))
theorem len_any (base p bm : Nat) (v : Value) (s : St) (w : World) (h : PN w base p bm v s) : Calls Try.prog 13 #[.pointer (some ⟨p, 0, none⟩)] w (SameI (s.fl.length : Int) w) := by
  obtain ⟨a, cap, rfl, hs, -⟩ := h.own.sli EF
  have h1 := h.c.1.2.1
  clear h
  go_enter Try.func13, Try.ntmps13
  go_wp2
  go_ret
  exact sameI rfl
set_option maxRecDepth 100000 in
theorem node_any (q : Nat) (a n : Int) (w : World) (h0 : w.cell? ⟨q, 0, none⟩ = some (.int .i64 n)) : Calls Try.prog 28 #[.pointer (some ⟨q, 0, none⟩), .int .i64 a] w (SameB (decide (0 ≤ a) && decide (a < n)) w) := by
  by_cases h1 : 0 ≤ a
  · by_cases h2 : a < n
    · go_enter Try.func28, Try.ntmps28
      go_wp2
      go_ret
      exact sameB (by simp; omega)
    · have h2' : n ≤ a := by omega
      go_enter Try.func28, Try.ntmps28
      go_wp2
      go_ret
      exact sameB (by simp; omega)
  · have h1' : a < 0 := by omega
    go_enter Try.func28, Try.ntmps28
    go_wp2
    go_ret
    exact sameB (by simp; omega)
set_option maxRecDepth 100000 in
theorem is_any (base q : Nat) (v c : Value) (s : St) (k : Int) (w : World) (h : RN w base q v c s) : Calls Try.prog 30 #[.pointer (some ⟨q, 0, none⟩), .int .i64 k] w (SameB (inB s k) w) := by
  obtain ⟨a, cap, rfl, hs, -⟩ := h.own.sli EF
  have c1 := h.c.1.2.1
  clear h hs
  unfold inB
  generalize s.fl.length = n at *
  by_cases h1 : 0 ≤ k
  · by_cases h2 : k < (n : Int)
    · go_enter Try.func30, Try.ntmps30
      go_wp2
      go_ret
      exact sameB (by simp; omega)
    · have h2' : (n : Int) ≤ k := by omega
      go_enter Try.func30, Try.ntmps30
      go_wp2
      go_ret
      exact sameB (by simp; omega)
  · have h1' : k < 0 := by omega
    go_enter Try.func30, Try.ntmps30
    go_wp2
    go_ret
    exact sameB (by simp; omega)
theorem wrap_id {x : Int} (h : 0 ≤ x) (hb : x < 9223372036854775808) : IntKind.i64.wrap x = x := by
  simp only [IntKind.wrap, IntKind.signed, IntKind.bits]
  simp
  omega
set_option maxRecDepth 100000 in
theorem add_any (p i : Nat) (x d : Int) (w : World) (h : w.cell? ⟨p, i, none⟩ = some (.int .i64 x)) (hf : w.frozen? ⟨p, i, none⟩ = false) (hx : 0 ≤ x) (hd : 0 ≤ d) (hb : x + d < 9223372036854775808) :
    Calls Try.prog 27 #[.pointer (some ⟨p, i, none⟩), .int .i64 d] w (fun e w' => e = .returned (.int .i64 (x + d)) ∧ w' = w.setCell ⟨p, i, none⟩ (.int .i64 (x + d))) := by
  have hadd := run_call_add (P := Try.prog) Try.func40 (by kernel_rfl) (by kernel_rfl) (by kernel_rfl) .i64 (by kernel_rfl) (y := d) (s := x + d) h hf (by simp [go_sem, wrap_id (show 0 ≤ x + d by omega) hb])
  clear hx hd hb
  go_enter Try.func27, Try.ntmps27
  go_wp2
  go_ret
  exact ⟨rfl, rfl⟩
set_option maxRecDepth 100000 in
theorem load_any (p i : Nat) (x : Int) (w : World) (h : w.cell? ⟨p, i, none⟩ = some (.int .i64 x)) :
    Calls Try.prog 37 #[.pointer (some ⟨p, i, none⟩)] w (SameI x w) := by
  have hld := run_call_load (P := Try.prog) Try.func42 (by kernel_rfl) (by kernel_rfl) (by kernel_rfl) .i64 (by kernel_rfl) h
  go_enter Try.func37, Try.ntmps37
  go_wp2
  go_ret
  exact sameI rfl
end Go.Proofs.Ytmiaifbpepfbnaa
