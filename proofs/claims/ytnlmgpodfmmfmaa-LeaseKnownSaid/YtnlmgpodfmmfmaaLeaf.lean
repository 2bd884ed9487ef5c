/- Contracts of the leaf functions of layer 15: lease.later, lease.Holds, lease.Waits, lease.Timeout, and the reference's. -/
import Derived.Test.YtnlmgpodfmmfmaaRows
import Derived.WalkKit
import Derived.WalkSpells
import Derived.WalkLawsBesides
import Derived.Lib.Hide
namespace Go.Proofs.Ytnlmgpodfmmfmaa
open Go.RowKit

/-- a time and some ticks; the greatest number where there is none. -/
def laterS (t k : Int) : Int := if t ≤ 9223372036854775807 - k then t + k else 9223372036854775807

/-- The post of a call that returns an integer and makes at most new memory. -/
def RetI (n : Int) (w : World) (e : Ending) (w' : World) : Prop := e = .returned (.int .i64 n) ∧ Below w.heap.size w w'
def RetB (b : Bool) (w : World) (e : Ending) (w' : World) : Prop := e = .returned (.bool b) ∧ Below w.heap.size w w'

/-- .. that returns, and leaves the world as it is. -/
def SameI (n : Int) (w : World) (e : Ending) (w' : World) : Prop := e = .returned (.int .i64 n) ∧ w = w'
def SameB (b : Bool) (w : World) (e : Ending) (w' : World) : Prop := e = .returned (.bool b) ∧ w = w'
theorem sameI {a b : Int} {w : World} (h : a = b) : SameI b w (.returned (.int .i64 a)) w := ⟨by rw [h], rfl⟩
theorem sameB {a b : Bool} {w : World} (h : a = b) : SameB b w (.returned (.bool a)) w := ⟨by rw [h], rfl⟩
theorem retI {a b : Int} {w w' : World} (h : a = b) (hb : Below w.heap.size w w') : RetI b w (.returned (.int .i64 a)) w' := ⟨by rw [h], hb⟩
theorem retB {a b : Bool} {w w' : World} (h : a = b) (hb : Below w.heap.size w w') : RetB b w (.returned (.bool a)) w' := ⟨by rw [h], hb⟩

set_option maxHeartbeats 400000 in
theorem later_any (t k : Int) (w : World) (h0 : 0 ≤ k) (h1 : k ≤ 100) (ht : -9223372036854775808 ≤ t) (ht2 : t ≤ 9223372036854775807) :
    Calls Try.prog 20 #[.int .i64 t, .int .i64 k] w (RetI (laterS t k) w) := by
  by_cases h : t ≤ 9223372036854775807 - k
  · go_enter Try.func20, Try.ntmps20
    go_wp2
    go_ret
    exact retI (by unfold laterS; rw [if_pos h]) (by repeat (first | exact Below.refl _ _ | refine Below.drew ?_ | refine Below.alloc ?_ (by simp) _))
  · go_enter Try.func20, Try.ntmps20
    go_wp2
    go_ret
    exact retI (by unfold laterS; rw [if_neg (by omega)]) (by repeat (first | exact Below.refl _ _ | refine Below.drew ?_ | refine Below.alloc ?_ (by simp) _))

theorem holds_any (u n : Int) (w : World) : Calls Try.prog 11 #[.int .i64 u, .int .i64 n] w fun e w' => e = .returned (.bool (decide (n < u))) ∧ w = w' := by
  go_enter Try.func11, Try.ntmps11
  go_wp2
  go_ret
  exact ⟨rfl, rfl⟩

theorem rholds_any (u n : Int) (w : World) : Calls Try.prog 12 #[.int .i64 u, .int .i64 n] w fun e w' => e = .returned (.bool (decide (n < u))) ∧ w = w' := by
  go_enter Try.func12, Try.ntmps12
  go_wp2
  go_ret
  exact ⟨rfl, rfl⟩

/-- whether a follower waits. -/
def waitsS (h n : Int) : Bool := decide (9223372036854775783 < h) || decide (n < h + 24)

theorem waits_yes {h n : Int} (c : 9223372036854775783 < h ∨ n < h + 24) : waitsS h n = true := by
  simp only [waitsS, Bool.or_eq_true, decide_eq_true_eq]; omega
theorem waits_no {h n : Int} (c : h ≤ 9223372036854775783) (d : h + 24 ≤ n) : waitsS h n = false := by
  simp only [waitsS, Bool.or_eq_false_iff, decide_eq_false_iff_not]; omega

theorem waits_or (h n : Int) : (decide (n < h + 24) || decide (9223372036854775783 < h)) = waitsS h n := by unfold waitsS; rw [Bool.or_comm]

set_option maxHeartbeats 400000 in
theorem waits_any (h n : Int) (w : World) (h1 : -9223372036854775808 ≤ h) (h2 : h ≤ 9223372036854775807) :
    Calls Try.prog 13 #[.int .i64 h, .int .i64 n] w (RetB (waitsS h n) w) := by
  by_cases c : 9223372036854775783 < h
  · have hl : laterS h 24 = 9223372036854775807 := by unfold laterS; rw [if_neg (by omega)]
    by_cases c2 : n < laterS h 24
    · go_enter Try.func13, Try.ntmps13
      go_wp2_with (go_at_call 20; refine (later_any _ _ _ (by omega) (by omega) (by omega) (by omega)).mono ?_; rintro e w' ⟨rfl, hb⟩)
      go_ret
      exact retB (waits_yes (.inl c)).symm (by assumption)
    · go_enter Try.func13, Try.ntmps13
      go_wp2_with (go_at_call 20; refine (later_any _ _ _ (by omega) (by omega) (by omega) (by omega)).mono ?_; rintro e w' ⟨rfl, hb⟩)
      go_ret
      exact retB (waits_yes (.inl c)).symm (by assumption)
  · have hl : laterS h 24 = h + 24 := by unfold laterS; rw [if_pos (by omega)]
    by_cases c2 : n < h + 24
    · go_enter Try.func13, Try.ntmps13
      go_wp2_with (go_at_call 20; refine (later_any _ _ _ (by omega) (by omega) (by omega) (by omega)).mono ?_; rintro e w' ⟨rfl, hb⟩)
      go_ret
      exact retB (waits_yes (.inr c2)).symm (by assumption)
    · go_enter Try.func13, Try.ntmps13
      go_wp2_with (go_at_call 20; refine (later_any _ _ _ (by omega) (by omega) (by omega) (by omega)).mono ?_; rintro e w' ⟨rfl, hb⟩)
      go_ret
      exact retB (waits_or h n) (by assumption)

theorem rwaits_any (h n : Int) (w : World) (h1 : -9223372036854775808 ≤ h) :
    Calls Try.prog 14 #[.int .i64 h, .int .i64 n] w (SameB (waitsS h n) w) := by
  by_cases c : 9223372036854775783 < h
  · have hw := Lib.hid (waits_yes (n := n) (.inl c))
    go_enter Try.func14, Try.ntmps14
    go_wp2
    go_ret
    exact sameB hw.out.symm
  · by_cases c2 : n < h + 24
    · have hw := Lib.hid (waits_yes (.inr c2))
      go_enter Try.func14, Try.ntmps14
      go_wp2
      go_ret
      exact sameB hw.out.symm
    · have hw := Lib.hid (waits_no (h := h) (n := n) (by omega) (by omega))
      go_enter Try.func14, Try.ntmps14
      go_wp2
      go_ret
      exact sameB hw.out.symm

/-- a timeout. -/
def timeoutS (d : Int) : Int := 30 + (max d 0) % 16

set_option maxHeartbeats 400000 in
theorem timeout_any (d : Int) (w : World) (h1 : -9223372036854775808 ≤ d) (h2 : d ≤ 9223372036854775807) :
    Calls Try.prog 15 #[.int .i64 d] w (SameI (timeoutS d) w) := by
  by_cases c : 0 ≤ d
  · have hw := Lib.hid (show timeoutS d = 30 + d % 16 by unfold timeoutS; omega)
    go_enter Try.func15, Try.ntmps15
    go_wp2
    go_ret
    exact sameI hw.out.symm
  · have hw := Lib.hid (show timeoutS d = 30 by unfold timeoutS; omega)
    go_enter Try.func15, Try.ntmps15
    go_wp2
    go_ret
    exact sameI hw.out.symm

set_option maxHeartbeats 400000 in
theorem rtimeout_any (d : Int) (w : World) (h1 : -9223372036854775808 ≤ d) (h2 : d ≤ 9223372036854775807) :
    Calls Try.prog 16 #[.int .i64 d] w (SameI (timeoutS d) w) := by
  by_cases c : 0 ≤ d
  · have hw := Lib.hid (show timeoutS d = 30 + d % 16 by unfold timeoutS; omega)
    go_enter Try.func16, Try.ntmps16
    go_wp2
    go_ret
    exact sameI hw.out.symm
  · have hw := Lib.hid (show timeoutS d = 30 by unfold timeoutS; omega)
    go_enter Try.func16, Try.ntmps16
    go_wp2
    go_ret
    exact sameI hw.out.symm

theorem plus_any (t k : Int) (w : World) (h0 : 0 ≤ k) (h1 : k ≤ 100) (ht : -9223372036854775808 ≤ t) (ht2 : t ≤ 9223372036854775807) :
    Calls Try.prog 18 #[.int .i64 t, .int .i64 k] w (SameI (laterS t k) w) := by
  by_cases h : t ≤ 9223372036854775807 - k
  · have hw := Lib.hid (show laterS t k = t + k by unfold laterS; rw [if_pos h])
    go_enter Try.func18, Try.ntmps18
    go_wp2
    go_ret
    exact sameI hw.out.symm
  · have hw := Lib.hid (show laterS t k = 9223372036854775807 by unfold laterS; rw [if_neg h])
    go_enter Try.func18, Try.ntmps18
    go_wp2
    go_ret
    exact sameI hw.out.symm

end Go.Proofs.Ytnlmgpodfmmfmaa
