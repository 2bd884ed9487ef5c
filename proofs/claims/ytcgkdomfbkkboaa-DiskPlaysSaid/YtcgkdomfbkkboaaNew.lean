/- A new disk; disks that are none. -/
import Derived.Test.YtcgkdomfbkkboaaWrite
namespace Go.Proofs.Ytcgkdomfbkkboaa
open Go.RowKit Go.Joins Go.ChangeMaps

set_option maxRecDepth 100000 in
theorem new_any (n room : Int) (w : World) (h1 : 1 ≤ n) (h2 : n ≤ 1024) (h3 : 0 ≤ room) : Calls Try.prog 9 #[.int .i64 n, .int .i64 room] w (fun e w' => e = .returned (.pointer (some ⟨w.heap.size + 1, 0, none⟩)) ∧ PD w' w.heap.size (w.heap.size + 1) w.heap.size (.slice none 0 0) (newS n room) ∧ Below w.heap.size w w') := by
  have hmm := @run_makeMap Try.prog
  go_enter Try.func9, Try.ntmps9
  go_wp2
  go_ret
  refine ⟨rfl, ⟨?_, by omega, ownL_nil _ _, Nat.le_refl _, ?_⟩, grew_trans (bel1 _ _) (bel1 _ _)⟩
  · have := heap_alloc_new (w.alloc (.map #[] 0)) (.cells #[.map (some w.heap.size), .slice none 0 0, .int .i64 n, .int .i64 room, .int .i64 0, .bool false] 61)
    rw [show (w.alloc (.map #[] 0)).heap.size = w.heap.size + 1 by simp] at this
    exact this
  · have hc : cntF (newS n room).now = 0 := cntF_zero
    rw [hc]
    exact (map_made ES w).below (bel1 _ _)
set_option maxRecDepth 100000 in
theorem new_out (n room : Int) (w : World) (h : n < 1 ∨ 1024 < n ∨ room < 0) : Calls Try.prog 9 #[.int .i64 n, .int .i64 room] w (fun e w' => e = .returned (.pointer none) ∧ w' = w) := by
  by_cases h1 : n < 1
  · clear h
    go_enter Try.func9, Try.ntmps9
    go_wp2
    go_ret
    exact ⟨rfl, rfl⟩
  · have h1' : 1 ≤ n := by omega
    by_cases h2 : 1024 < n
    · clear h h1
      go_enter Try.func9, Try.ntmps9
      go_wp2
      go_ret
      exact ⟨rfl, rfl⟩
    · have h2' : n ≤ 1024 := by omega
      have h3 : room < 0 := by omega
      clear h h1 h2
      go_enter Try.func9, Try.ntmps9
      go_wp2
      go_ret
      exact ⟨rfl, rfl⟩
theorem write_nil (i : Int) (b : BA) (w : World) : Calls Try.prog 11 #[.pointer none, .int .i64 i, .string b] w (SameI 1 w) := by
  have hs := state_nil w
  go_enter Try.func11, Try.ntmps11
  go_wp2_with (go_at_call 30; refine hs.mono ?_; rintro e w1 ⟨rfl, rfl⟩)
  go_ret
  exact sameI rfl
theorem flush_nil (w : World) : Calls Try.prog 17 #[.pointer none] w (SameI 1 w) := by
  have hs := state_nil w
  go_enter Try.func17, Try.ntmps17
  go_wp2_with (go_at_call 30; refine hs.mono ?_; rintro e w1 ⟨rfl, rfl⟩)
  go_ret
  exact sameI rfl
theorem read_nil (i : Int) (w : World) : Calls Try.prog 18 #[.pointer none, .int .i64 i] w (RetSI ByteArray.empty 1 w) := by
  have hs := state_nil w
  go_enter Try.func18, Try.ntmps18
  go_wp2_with (go_at_call 30; refine hs.mono ?_; rintro e w1 ⟨rfl, rfl⟩)
  refine bodyPost_ret (results_tmp2 rfl _ _ _) rfl ?_
  exact ⟨rfl, Below.refl _ _⟩
theorem fits_nil (w : World) : Calls Try.prog 14 #[.pointer none, .slice none 0 0] w (RetB false w) := by
  have hs := fun w => state_nil w
  go_enter Try.func14, Try.ntmps14
  go_wp2_with (go_at_call 30; refine (hs _).mono ?_; rintro e w1 ⟨rfl, rfl⟩)
  go_ret
  exact retB rfl (bel1 _ _)
theorem used_nil (w : World) : Calls Try.prog 23 #[.pointer none] w (SameI 0 w) := by
  go_enter Try.func23, Try.ntmps23
  go_wp2
  go_ret
  exact sameI rfl
theorem len_nil (w : World) : Calls Try.prog 29 #[.pointer none] w (SameI 0 w) := by
  go_enter Try.func29, Try.ntmps29
  go_wp2
  go_ret
  exact sameI rfl
theorem on_nil (w : World) : Calls Try.prog 21 #[.pointer none] w (SameB false w) := by
  have hs := state_nil w
  go_enter Try.func21, Try.ntmps21
  go_wp2_with (go_at_call 30; refine hs.mono ?_; rintro e w1 ⟨rfl, rfl⟩)
  go_ret
  exact sameB rfl
theorem copy_nil (w : World) : Calls Try.prog 24 #[.pointer none] w (RetV (.pointer none) w) := by
  go_enter Try.func24, Try.ntmps24
  go_wp2
  go_ret
  exact retV rfl (Below.refl _ _)
end Go.Proofs.Ytcgkdomfbkkboaa
