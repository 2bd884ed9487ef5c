/- The walk of the closed law LeaseKnown. -/
import Derived.Test.YtnlmgpodfmmfmaaLaws
namespace Go.Proofs.Ytnlmgpodfmmfmaa
open Go.RowKit

/-- A lease of stamps that the caller has just laid. -/
theorem until_lit1 (x n : Int) (w : World) (hx : -9223372036854775808 ≤ x ∧ x ≤ 9223372036854775807) (n1 : -9223372036854775808 ≤ n) (n2 : n ≤ 9223372036854775807) :
    Calls Try.prog 10 #[.slice (some ⟨w.heap.size, 0, none⟩) 1 1, .int .i64 n] (w.alloc (.cells #[.int .i64 x] 2)) (RetI (untilR n [x]) w) :=
  (until_len n _ 1 1 [x] _ rfl (by decide) (row_lit w _ [x] rfl) n1 n2 (by intro t ht; simp at ht; subst ht; exact hx)).mono fun e w' ⟨he, hb⟩ => ⟨he, grew_trans ((Below.refl _ _).alloc (Nat.le_refl _) _) hb⟩
theorem until_lit2 (x y n : Int) (w : World) (hx : -9223372036854775808 ≤ x ∧ x ≤ 9223372036854775807) (hy : -9223372036854775808 ≤ y ∧ y ≤ 9223372036854775807) (n1 : -9223372036854775808 ≤ n) (n2 : n ≤ 9223372036854775807) :
    Calls Try.prog 10 #[.slice (some ⟨w.heap.size, 0, none⟩) 2 2, .int .i64 n] (w.alloc (.cells #[.int .i64 x, .int .i64 y] 2)) (RetI (untilR n [x, y]) w) :=
  (until_len n _ 2 2 [x, y] _ rfl (by decide) (row_lit w _ [x, y] rfl) n1 n2 (by intro t ht; simp at ht; rcases ht with rfl | rfl <;> assumption)).mono fun e w' ⟨he, hb⟩ => ⟨he, grew_trans ((Below.refl _ _).alloc (Nat.le_refl _) _) hb⟩
theorem until_lit3 (x y z n : Int) (w : World) (hx : -9223372036854775808 ≤ x ∧ x ≤ 9223372036854775807) (hy : -9223372036854775808 ≤ y ∧ y ≤ 9223372036854775807) (hz : -9223372036854775808 ≤ z ∧ z ≤ 9223372036854775807) (n1 : -9223372036854775808 ≤ n) (n2 : n ≤ 9223372036854775807) :
    Calls Try.prog 10 #[.slice (some ⟨w.heap.size, 0, none⟩) 3 3, .int .i64 n] (w.alloc (.cells #[.int .i64 x, .int .i64 y, .int .i64 z] 2)) (RetI (untilR n [x, y, z]) w) :=
  (until_len n _ 3 3 [x, y, z] _ rfl (by decide) (row_lit w _ [x, y, z] rfl) n1 n2 (by intro t ht; simp at ht; rcases ht with rfl | rfl | rfl <;> assumption)).mono fun e w' ⟨he, hb⟩ => ⟨he, grew_trans ((Below.refl _ _).alloc (Nat.le_refl _) _) hb⟩
theorem until_lit0 (n : Int) (w : World) (n1 : -9223372036854775808 ≤ n) (n2 : n ≤ 9223372036854775807) :
    Calls Try.prog 10 #[.slice none 0 0, .int .i64 n] w (RetI (untilR n []) w) :=
  until_len n _ 0 0 [] _ rfl (by decide) (fun i hi => absurd hi (Nat.not_lt_zero _)) n1 n2 (by simp)

theorem u0 : untilR (12) [10, -1] = 30 := by decide
theorem u1 : untilR (12) [10, 11] = 31 := by decide
theorem u2 : untilR (12) [-1, -1] = 0 := by decide
theorem u3 : untilR (12) [] = 0 := by decide
theorem u4 : untilR (12) [15, 3] = 32 := by decide
theorem u5 : untilR (5) [5, 5, 5] = 25 := by decide
theorem u6 : untilR (0) [1, 9, 4] = 24 := by decide
theorem u7 : untilR (-5) [0] = 15 := by decide
theorem u8 : untilR (0) [9223372036854775807, 9223372036854775807] = 9223372036854775807 := by decide
theorem u9 : untilR (9223372036854775807) [9223372036854775787, 0] = 9223372036854775807 := by decide
theorem u10 : untilR (9223372036854775807) [9223372036854775786, 0] = 9223372036854775806 := by decide
theorem u11 : untilR (-9223372036854775808) [0] = -9223372036854775788 := by decide
theorem x0 : waitsS (10) (33) = true := by decide
theorem x1 : waitsS (10) (34) = false := by decide
theorem x2 : waitsS (9223372036854775807) (9223372036854775807) = true := by decide
theorem x3 : waitsS (9223372036854775783) (9223372036854775806) = true := by decide
theorem x4 : waitsS (9223372036854775783) (9223372036854775807) = false := by decide
theorem x5 : waitsS (-9223372036854775808) (0) = false := by decide
theorem t0 : timeoutS (0) = 30 := by decide
theorem t1 : timeoutS (15) = 45 := by decide
theorem t2 : timeoutS (16) = 30 := by decide
theorem t3 : timeoutS (-3) = 30 := by decide
theorem t4 : timeoutS (9223372036854775807) = 45 := by decide

set_option maxRecDepth 100000 in
set_option maxHeartbeats 4000000 in
theorem lawKnown (w : World) : Calls Try.prog 8 #[] w (RetB true w) := by
  go_enter Try.func8, Try.ntmps8
  go_wp2_with (first
    | (go_at_call 10; (first | (with_reducible refine (until_lit2 _ _ _ _ (by decide) (by decide) (by decide) (by decide)).mono ?_) | (with_reducible refine (until_lit1 _ _ _ (by decide) (by decide) (by decide)).mono ?_) | (with_reducible refine (until_lit3 _ _ _ _ _ (by decide) (by decide) (by decide) (by decide) (by decide)).mono ?_) | (with_reducible refine (until_lit0 _ _ (by decide) (by decide)).mono ?_)); rintro e w1 ⟨rfl, hb⟩; first | rw [u0] | rw [u1] | rw [u2] | rw [u3] | rw [u4] | rw [u5] | rw [u6] | rw [u7] | rw [u8] | rw [u9] | rw [u10] | rw [u11])
    | (go_at_call 13; refine (waits_any _ _ _ (by decide) (by decide)).mono ?_; rintro e w1 ⟨rfl, hb⟩; first | rw [x0] | rw [x1] | rw [x2] | rw [x3] | rw [x4] | rw [x5])
    | (go_at_call 11; refine (holds_any _ _ _).mono ?_; rintro e w1 ⟨rfl, rfl⟩)
    | (go_at_call 15; refine (timeout_any _ _ (by decide) (by decide)).mono ?_; rintro e w1 ⟨rfl, rfl⟩; first | rw [t0] | rw [t1] | rw [t2] | rw [t3] | rw [t4])
    | (go_at_call 17; refine (works_any _).mono ?_; rintro e w1 ⟨rfl, hb⟩))
  go_ret
  refine retB rfl ?_
  repeat (first | exact Below.refl _ _ | (refine grew_trans ?_ (by assumption)) | (refine Below.alloc ?_ (Nat.le_refl _) _))
end Go.Proofs.Ytnlmgpodfmmfmaa
