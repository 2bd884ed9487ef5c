/- The walks of lease.Until and of the laws' own 'works'. -/
import Derived.Test.YtnlmgpodfmmfmaaRef
namespace Go.Proofs.Ytnlmgpodfmmfmaa
open Go.RowKit

set_option maxHeartbeats 1000000 in
theorem until_any (now : Int) (a : Option Addr) (cap : Nat) (xs : List Int) (w : World) (hm : xs.length ≤ 1000) (hc : Row w a xs)
    (hn1 : -9223372036854775808 ≤ now) (hn2 : now ≤ 9223372036854775807) (hx : ∀ t ∈ xs, -9223372036854775808 ≤ t ∧ t ≤ 9223372036854775807) :
    Calls Try.prog 10 #[.slice a xs.length cap, .int .i64 now] w (RetI (untilR now xs) w) := by
  have Hc := Lib.hid hc
  have His := Lib.hid (sec_is xs now)
  have Hq : Hid (∀ t ∈ pos xs, -9223372036854775808 ≤ t ∧ t ≤ 9223372036854775807) := fun t ht => hx t (List.mem_filter.1 ht).1
  have Hnx := Lib.hid (sec_next xs now)
  have Hun : Hid (untilR now xs = if pos xs = [] then 0 else laterS (topS now (pos xs)).2 20) := rfl
  clear hc hx
  generalize hS : secS now xs = S at *
  have HS := Lib.hid hS
  clear hS
  obtain ⟨f, n, is⟩ := S
  have hm' : xs.length ≤ maxLen := by unfold maxLen; omega
  by_cases hp : pos xs = []
  · obtain rfl : is = false := by have := His.out; simp only [hp] at this; exact this
    rw [if_pos hp] at Hun
    clear hp
    go_enter Try.func10, Try.ntmps10
    go_wp2_with (go_at_call 19; refine (second_any _ _ _ _ _ hm' Hc.out).mono ?_; rintro e w' ⟨rfl, rfl⟩; rw [HS.out])
    go_ret
    exact retI Hun.out.symm (Below.refl _ _)
  · obtain rfl : is = true := by
      have := His.out; simp only [] at this; rw [this]; simp [hp]
    have hn : n = (topS now (pos xs)).2 := Hnx.out hp
    have hb := (topS_in (-9223372036854775808) 9223372036854775807 now (pos xs) ⟨hn1, hn2⟩ Hq.out).2
    rw [← hn] at hb
    rw [if_neg hp, ← hn] at Hun
    clear hn hp
    go_enter Try.func10, Try.ntmps10
    go_wp2_with (first | (go_at_call 19; refine (second_any _ _ _ _ _ hm' Hc.out).mono ?_; rintro e w' ⟨rfl, rfl⟩; rw [HS.out]) | (go_at_call 20; refine (later_any _ _ _ (by omega) (by omega) (by omega) (by omega)).mono ?_; rintro e w' ⟨rfl, hb⟩))
    go_ret
    exact retI Hun.out.symm (by assumption)

theorem grew_trans {a b c : World} (h : Below a.heap.size a b) (k : Below b.heap.size b c) : Below a.heap.size a c := h.trans (k.mono h.size)

theorem row_lit (w : World) (o : Nat) (cs : List Int) (hsz : o = w.heap.size) : Row (w.alloc (.cells (cs.map (Value.int .i64)).toArray 2)) (some ⟨o, 0, none⟩) cs := by
  intro i hi
  refine ⟨o, 0, rfl, ?_⟩
  subst hsz
  rw [World.cell?_alloc_at _ _ _ _ (by simp)]
  simp [hi]

theorem untilW : untilR 12 [10, -1] = 30 := by decide
theorem timeoutW : timeoutS 17 = 31 := by decide
theorem waitsW1 : waitsS 10 33 = true := by decide
theorem waitsW2 : waitsS 10 34 = false := by decide

set_option maxHeartbeats 1000000 in
theorem works_any (w : World) : Calls Try.prog 17 #[] w (RetB true w) := by
  have H1 := Lib.hid untilW
  have H2 := Lib.hid timeoutW
  have H3 := Lib.hid waitsW1
  have H4 := Lib.hid waitsW2
  go_enter Try.func17, Try.ntmps17
  go_wp2_with (first
    | (go_at_call 10; refine (until_any 12 _ _ [10, -1] _ (by decide) (row_lit w _ [10, -1] rfl) (by decide) (by decide) (by decide)).mono ?_; rintro e w1 ⟨rfl, hb⟩; rw [H1.out])
    | (go_at_call 11; refine (holds_any _ _ _).mono ?_; rintro e w' ⟨rfl, rfl⟩)
    | (go_at_call 13; refine (waits_any _ _ _ (by decide) (by decide)).mono ?_; rintro e w1 ⟨rfl, hb⟩; first | rw [H3.out] | rw [H4.out])
    | (go_at_call 15; refine (timeout_any _ _ (by decide) (by decide)).mono ?_; rintro e w1 ⟨rfl, rfl⟩; rw [H2.out]))
  go_ret
  refine retB rfl ?_
  repeat (first | exact Below.refl _ _ | (refine grew_trans ?_ (by assumption)) | (refine Below.alloc ?_ (Nat.le_refl _) _))
end Go.Proofs.Ytnlmgpodfmmfmaa
