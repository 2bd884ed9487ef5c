/- The walks of the laws LeaseWaits, LeaseTells, LeaseAsks, LeaseKnown. -/
import Derived.Test.YtnlmgpodfmmfmaaUntil
import Derived.OpenShut
namespace Go.Proofs.Ytnlmgpodfmmfmaa
open Go.RowKit

set_option maxHeartbeats 1000000 in
theorem lawWaits (h n : Int) (w : World) (h1 : -9223372036854775808 ≤ h) (h2 : h ≤ 9223372036854775807) :
    Calls Try.prog 4 #[.int .i64 h, .int .i64 n] w (RetB true w) := by
  go_enter Try.func4, Try.ntmps4
  go_wp2_with (first
    | (go_at_call 13; refine (waits_any _ _ _ h1 h2).mono ?_; rintro e w1 ⟨rfl, hb⟩)
    | (go_at_call 14; refine (rwaits_any _ _ _ h1).mono ?_; rintro e w1 ⟨rfl, rfl⟩)
    | (go_at_call 11; refine (holds_any _ _ _).mono ?_; rintro e w1 ⟨rfl, rfl⟩)
    | (go_at_call 12; refine (rholds_any _ _ _).mono ?_; rintro e w1 ⟨rfl, rfl⟩)
    | (go_at_call 17; refine (works_any _).mono ?_; rintro e w1 ⟨rfl, hb⟩))
  go_ret
  refine retB rfl ?_
  repeat (first | exact Below.refl _ _ | (refine grew_trans ?_ (by assumption)) | (refine Below.alloc ?_ (Nat.le_refl _) _))

/-- what is left of a list behind a cut to some length, as a row. -/
theorem row_take {w : World} {a : Option Addr} {xs : List Int} (h : Row w a xs) (n : Nat) : Row w a (xs.take n) := by
  intro i hi
  simp only [List.length_take] at hi
  obtain ⟨b, off, e, hc⟩ := h i (by omega)
  refine ⟨b, off, e, ?_⟩
  rw [hc]
  simp [List.getD, show i < n by omega]

theorem row_below {w w' : World} {a : Option Addr} {xs : List Int} (h : Row w a xs) (hb : Below w.heap.size w w') : Row w' a xs := by
  intro i hi
  obtain ⟨b, off, e, hc⟩ := h i hi
  exact ⟨b, off, e, (hb.cell (World.block_lt_of_cell? _ _ hc)).trans hc⟩

theorem timeoutS_in (d : Int) : 30 ≤ timeoutS d ∧ timeoutS d < 46 := by unfold timeoutS; omega

set_option maxHeartbeats 1000000 in
theorem lawAsks (d x : Int) (w : World) (d1 : -9223372036854775808 ≤ d) (d2 : d ≤ 9223372036854775807) (x1 : -9223372036854775808 ≤ x) (x2 : x ≤ 9223372036854775807) :
    Calls Try.prog 7 #[.int .i64 d, .int .i64 x] w (RetB true w) := by
  have ht := timeoutS_in d
  generalize hT : timeoutS d = T at ht
  have HT := Lib.hid hT
  clear hT
  go_enter Try.func7, Try.ntmps7
  go_wp2_with (first
    | (go_at_call 15; refine (timeout_any _ _ d1 d2).mono ?_; rintro e w1 ⟨rfl, rfl⟩; rw [HT.out])
    | (go_at_call 13; refine (waits_any _ _ _ (by omega) (by omega)).mono ?_; rintro e w1 ⟨rfl, hb⟩; first | rw [waits_no (by omega) (by omega)] | rw [waits_yes (.inr (by omega))])
    | (go_at_call 17; refine (works_any _).mono ?_; rintro e w1 ⟨rfl, hb⟩))
  all_goals
    go_ret
    refine retB rfl ?_
    repeat (first | exact Below.refl _ _ | (refine grew_trans ?_ (by assumption)) | (refine Below.alloc ?_ (Nat.le_refl _) _))

theorem laterS_in (t k : Int) (h0 : 0 ≤ k) (h1 : k ≤ 100) (ht : -9223372036854775808 ≤ t) : -9223372036854775808 ≤ laterS t k ∧ laterS t k ≤ 9223372036854775807 := by
  unfold laterS; split <;> omega

theorem untilR_in (now : Int) (xs : List Int) (hn : -9223372036854775808 ≤ now ∧ now ≤ 9223372036854775807) (hx : ∀ t ∈ xs, -9223372036854775808 ≤ t ∧ t ≤ 9223372036854775807) :
    -9223372036854775808 ≤ untilR now xs ∧ untilR now xs ≤ 9223372036854775807 := by
  unfold untilR
  split
  · omega
  · exact laterS_in _ _ (by omega) (by omega) (topS_in _ _ now (pos xs) hn (fun t ht => hx t (List.mem_filter.1 ht).1)).2.1

/-- Both of the two, of a slice of some length, as a value. -/
theorem runtil_len (now : Int) (a : Option Addr) (len cap : Nat) (xs : List Int) (w : World) (hl : xs.length = len) (hm : len ≤ 1000) (hc : Row w a xs)
    (hn1 : -9223372036854775808 ≤ now) (hn2 : now ≤ 9223372036854775807) (hx : ∀ t ∈ xs, -9223372036854775808 ≤ t ∧ t ≤ 9223372036854775807) :
    Calls Try.prog 9 #[.slice a len cap, .int .i64 now] w (RetI (untilR now xs) w) := by
  subst hl; exact runtil_any now a cap xs w hm hc hn1 hn2 hx
theorem until_len (now : Int) (a : Option Addr) (len cap : Nat) (xs : List Int) (w : World) (hl : xs.length = len) (hm : len ≤ 1000) (hc : Row w a xs)
    (hn1 : -9223372036854775808 ≤ now) (hn2 : now ≤ 9223372036854775807) (hx : ∀ t ∈ xs, -9223372036854775808 ≤ t ∧ t ≤ 9223372036854775807) :
    Calls Try.prog 10 #[.slice a len cap, .int .i64 now] w (RetI (untilR now xs) w) := by
  subst hl; exact until_any now a cap xs w hm hc hn1 hn2 hx

set_option maxHeartbeats 1000000 in
theorem lawTells (a : Option Addr) (len cap : Nat) (xs : List Int) (n d : Int) (w : World) (hl : xs.length = len) (hlc : len ≤ cap) (hcm : cap ≤ maxLen) (hnil : a = none → cap = 0) (hr : Row w a xs)
    (hx : ∀ t ∈ xs, -9223372036854775808 ≤ t ∧ t ≤ 9223372036854775807)
    (n1 : -9223372036854775808 ≤ n) (n2 : n ≤ 9223372036854775807) (d1 : -9223372036854775808 ≤ d) (d2 : d ≤ 9223372036854775807) :
    Calls Try.prog 3 #[.slice a len cap, .int .i64 n, .int .i64 d] w (RetB true w) := by
  unfold maxLen at hcm
  have hr1 := row_take hr 100
  have hl1 : (xs.take 100).length = min 100 len := by simp [hl]
  have hx1 : ∀ t ∈ xs.take 100, -9223372036854775808 ≤ t ∧ t ≤ 9223372036854775807 := fun t ht => hx t (List.mem_of_mem_take ht)
  have hu := untilR_in n _ ⟨n1, n2⟩ hx1
  generalize hU : untilR n (xs.take 100) = u at hu
  have HU := Lib.hid hU; clear hU
  have Hl1 := Lib.hid hl1; clear hl1
  have Hr1 := Lib.hid hr1; clear hr1 hr
  have Hx1 := Lib.hid hx1; clear hx1 hx
  have cases3 : (a = none ∧ len = 0 ∧ cap = 0) ∨ (∃ x, a = some x) ∧ 100 < len ∨ (∃ x, a = some x) ∧ len ≤ 100 := by
    cases a with
    | none => have := hnil rfl; exact .inl ⟨rfl, by omega, this⟩
    | some a => by_cases c : 100 < len
                · exact .inr (.inl ⟨⟨_, rfl⟩, c⟩)
                · exact .inr (.inr ⟨⟨_, rfl⟩, by omega⟩)
  clear hl hnil
  rcases cases3 with ⟨rfl, rfl, rfl⟩ | ⟨⟨a, rfl⟩, c⟩ | ⟨⟨a, rfl⟩, c⟩
  all_goals
    go_enter Try.func3, Try.ntmps3
    go_wp2_with (first
      | (go_at_call 9; refine (runtil_len n _ _ _ _ w (Hl1.out.trans (by omega)) (by omega) Hr1.out n1 n2 Hx1.out).mono ?_; rintro e w1 ⟨rfl, hb⟩; rw [HU.out])
      | (go_at_call 10; refine (until_len n _ _ _ _ _ (Hl1.out.trans (by omega)) (by omega) (row_below Hr1.out (by assumption)) n1 n2 Hx1.out).mono ?_; rintro e w1 ⟨rfl, hb⟩; rw [HU.out])
      | (go_at_call 13; refine (waits_any _ _ _ (by omega) (by omega)).mono ?_; rintro e w1 ⟨rfl, hb⟩)
      | (go_at_call 14; refine (rwaits_any _ _ _ (by omega)).mono ?_; rintro e w1 ⟨rfl, rfl⟩)
      | (go_at_call 11; refine (holds_any _ _ _).mono ?_; rintro e w1 ⟨rfl, rfl⟩)
      | (go_at_call 12; refine (rholds_any _ _ _).mono ?_; rintro e w1 ⟨rfl, rfl⟩)
      | (go_at_call 15; refine (timeout_any _ _ d1 d2).mono ?_; rintro e w1 ⟨rfl, rfl⟩)
      | (go_at_call 16; refine (rtimeout_any _ _ d1 d2).mono ?_; rintro e w1 ⟨rfl, rfl⟩)
      | (go_at_call 17; refine (works_any _).mono ?_; rintro e w1 ⟨rfl, hb⟩))
    go_ret
    refine retB rfl ?_
    repeat (first | exact Below.refl _ _ | (refine grew_trans ?_ (by assumption)) | (refine Below.alloc ?_ (Nat.le_refl _) _))
end Go.Proofs.Ytnlmgpodfmmfmaa
