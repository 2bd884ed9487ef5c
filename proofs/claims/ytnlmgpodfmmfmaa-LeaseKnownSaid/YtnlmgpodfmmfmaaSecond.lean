/- The walk of lease.second. -/
import Derived.Test.YtnlmgpodfmmfmaaLeaf
import Derived.Test.YtnlmgpodfmmfmaaPlain
namespace Go.Proofs.Ytnlmgpodfmmfmaa
open Go.RowKit

/-- a slice that came in, whose elements are these numbers. -/
def Row (w : World) (a : Option Addr) (xs : List Int) : Prop :=
  ∀ i, i < xs.length → ∃ b off, a = some ⟨b, off, none⟩ ∧ w.cell? ⟨b, off + i, none⟩ = some (.int .i64 (xs.getD i 0))

theorem take_step (xs : List Int) (s : Sec) (k : Nat) (h : k < xs.length) : (xs.take (k + 1)).foldl Sec.step s = ((xs.take k).foldl Sec.step s).step (xs.getD k 0) := by
  rw [List.take_succ_eq_append_getElem h, List.foldl_append]
  simp [h]

theorem step_false_lt (fi ne t : Int) (c1 : ¬ t < 0) (c2 : t < fi) : Sec.step ⟨fi, ne, false⟩ t = ⟨fi, t, true⟩ := by
  unfold Sec.step; rw [if_neg c1, if_pos (.inl rfl)]; simp only [Sec.mk.injEq, and_true]; omega
theorem step_yes_lt (fi ne t : Int) (c1 : ¬ t < 0) (c2 : t < fi) (c3 : ne < t) : Sec.step ⟨fi, ne, true⟩ t = ⟨fi, t, true⟩ := by
  unfold Sec.step; rw [if_neg c1, if_pos (.inr (by simp only; omega))]; simp only [Sec.mk.injEq, and_true]; omega
theorem step_no_lt (fi ne t : Int) (c1 : ¬ t < 0) (c2 : t < fi) (c3 : ¬ ne < t) : Sec.step ⟨fi, ne, true⟩ t = ⟨fi, ne, true⟩ := by
  unfold Sec.step; rw [if_neg c1, if_neg (by simp only [Bool.true_eq_false, false_or]; omega)]; simp only [Sec.mk.injEq, and_true]; omega
theorem step_false_eq (fi ne t : Int) (c1 : ¬ t < 0) (c2 : t = fi) : Sec.step ⟨fi, ne, false⟩ t = ⟨t, t, true⟩ := by
  unfold Sec.step; rw [if_neg c1, if_pos (.inl rfl)]; simp only [Sec.mk.injEq, and_true]; omega
theorem step_yes_eq (fi ne t : Int) (c1 : ¬ t < 0) (c2 : t = fi) (c3 : ne < t) : Sec.step ⟨fi, ne, true⟩ t = ⟨t, t, true⟩ := by
  unfold Sec.step; rw [if_neg c1, if_pos (.inr (by simp only; omega))]; simp only [Sec.mk.injEq, and_true]; omega
theorem step_no_eq (fi ne t : Int) (c1 : ¬ t < 0) (c2 : t = fi) (c3 : ¬ ne < t) : Sec.step ⟨fi, ne, true⟩ t = ⟨t, ne, true⟩ := by
  unfold Sec.step; rw [if_neg c1, if_neg (by simp only [Bool.true_eq_false, false_or]; omega)]; simp only [Sec.mk.injEq, and_true]; omega
theorem step_false_ge (fi ne t : Int) (c1 : ¬ t < 0) (c2 : fi < t) : Sec.step ⟨fi, ne, false⟩ t = ⟨t, fi, true⟩ := by
  unfold Sec.step; rw [if_neg c1, if_pos (.inl rfl)]; simp only [Sec.mk.injEq, and_true]; omega
theorem step_yes_ge (fi ne t : Int) (c1 : ¬ t < 0) (c2 : fi < t) (c3 : ne < fi) : Sec.step ⟨fi, ne, true⟩ t = ⟨t, fi, true⟩ := by
  unfold Sec.step; rw [if_neg c1, if_pos (.inr (by simp only; omega))]; simp only [Sec.mk.injEq, and_true]; omega
theorem step_no_ge (fi ne t : Int) (c1 : ¬ t < 0) (c2 : fi < t) (c3 : ¬ ne < fi) : Sec.step ⟨fi, ne, true⟩ t = ⟨t, ne, true⟩ := by
  unfold Sec.step; rw [if_neg c1, if_neg (by simp only [Bool.true_eq_false, false_or]; omega)]; simp only [Sec.mk.injEq, and_true]; omega

def Ret2 (n : Int) (b : Bool) (w : World) (e : Ending) (w' : World) : Prop := e = .returned (.tuple #[.int .i64 n, .bool b]) ∧ w = w'
theorem ret2 {a n : Int} {b c : Bool} {w : World} (h : a = n) (g : b = c) : Ret2 n c w (.returned (.tuple #[.int .i64 a, .bool b])) w := ⟨by rw [h, g], rfl⟩

set_option maxHeartbeats 1000000 in
theorem second_any (f : Int) (a : Option Addr) (cap : Nat) (xs : List Int) (w : World) (hm : xs.length ≤ maxLen) (hc : Row w a xs) :
    Calls Try.prog 19 #[.int .i64 f, .slice a xs.length cap] w (Ret2 (secS f xs).next (secS f xs).is w) := by
  unfold maxLen at hm
  have hfin : (xs.take xs.length).foldl Sec.step ⟨f, 0, false⟩ = secS f xs := by rw [List.take_length]; rfl
  have Hfin := Lib.hid hfin; clear hfin
  have Hc : Hid (Row w a xs) := hc
  clear hc
  go_enter Try.func19, Try.ntmps19
  go_wp2
  go_loop [0, 6, 7, 13] (fun v0 v6 v7 v13 => ∃ k : Nat, k ≤ xs.length ∧ v13 = .int .i64 k ∧ v0 = .int .i64 ((xs.take k).foldl Sec.step ⟨f, 0, false⟩).first ∧ v6 = .int .i64 ((xs.take k).foldl Sec.step ⟨f, 0, false⟩).next ∧ v7 = .bool ((xs.take k).foldl Sec.step ⟨f, 0, false⟩).is)
    (fun _ _ _ i => xs.length - (intOf i).toNat)
  case atStart => exact ⟨0, Nat.zero_le _, rfl, rfl, rfl, rfl⟩
  case round =>
    obtain ⟨k, hk, rfl, rfl, rfl, rfl⟩ := hrel
    by_cases hlt : k < xs.length
    · obtain ⟨b, off, rfl, hcell⟩ := Hc.out k hlt
      have hts := Lib.hid (take_step xs ⟨f, 0, false⟩ k hlt)
      generalize hS : (xs.take k).foldl Sec.step ⟨f, 0, false⟩ = S at hts ⊢
      clear hS
      generalize xs.getD k 0 = t at hts hcell
      obtain ⟨fi, ne, is⟩ := S
      by_cases c1 : t < 0
      · have h2 : Sec.step ⟨fi, ne, is⟩ t = ⟨fi, ne, is⟩ := by simp [Sec.step, c1]
        have H2 := Lib.hid h2; clear h2
        go_wp2
        go_round
        case rel => exact ⟨k + 1, by omega, by go_num, by rw [hts.out, H2.out], by rw [hts.out, H2.out], by rw [hts.out, H2.out]⟩
        case measure => simp [intOf]; omega
      · rcases Int.lt_trichotomy t fi with c2 | rfl | c2
        · cases is with
          | false =>
            have H2 := Lib.hid (step_false_lt fi ne t c1 c2)
            go_wp2
            go_round
            case rel => exact ⟨k + 1, by omega, by go_num, by rw [hts.out, H2.out], by rw [hts.out, H2.out], by rw [hts.out, H2.out]⟩
            case measure => simp [intOf]; omega
          | true =>
            by_cases c3 : ne < t
            · have H2 := Lib.hid (step_yes_lt fi ne t c1 c2 c3)
              go_wp2
              go_round
              case rel => exact ⟨k + 1, by omega, by go_num, by rw [hts.out, H2.out], by rw [hts.out, H2.out], by rw [hts.out, H2.out]⟩
              case measure => simp [intOf]; omega
            · have H2 := Lib.hid (step_no_lt fi ne t c1 c2 c3)
              go_wp2
              go_round
              case rel => exact ⟨k + 1, by omega, by go_num, by rw [hts.out, H2.out], by rw [hts.out, H2.out], by rw [hts.out, H2.out]⟩
              case measure => simp [intOf]; omega
        · cases is with
          | false =>
            have H2 := Lib.hid (step_false_eq t ne t c1 rfl)
            go_wp2
            go_round
            case rel => exact ⟨k + 1, by omega, by go_num, by rw [hts.out, H2.out], by rw [hts.out, H2.out], by rw [hts.out, H2.out]⟩
            case measure => simp [intOf]; omega
          | true =>
            by_cases c3 : ne < t
            · have H2 := Lib.hid (step_yes_eq t ne t c1 rfl c3)
              go_wp2
              go_round
              case rel => exact ⟨k + 1, by omega, by go_num, by rw [hts.out, H2.out], by rw [hts.out, H2.out], by rw [hts.out, H2.out]⟩
              case measure => simp [intOf]; omega
            · have H2 := Lib.hid (step_no_eq t ne t c1 rfl c3)
              go_wp2
              go_round
              case rel => exact ⟨k + 1, by omega, by go_num, by rw [hts.out, H2.out], by rw [hts.out, H2.out], by rw [hts.out, H2.out]⟩
              case measure => simp [intOf]; omega
        · cases is with
          | false =>
            have H2 := Lib.hid (step_false_ge fi ne t c1 c2)
            go_wp2
            go_round
            case rel => exact ⟨k + 1, by omega, by go_num, by rw [hts.out, H2.out], by rw [hts.out, H2.out], by rw [hts.out, H2.out]⟩
            case measure => simp [intOf]; omega
          | true =>
            by_cases c3 : ne < fi
            · have H2 := Lib.hid (step_yes_ge fi ne t c1 c2 c3)
              go_wp2
              go_round
              case rel => exact ⟨k + 1, by omega, by go_num, by rw [hts.out, H2.out], by rw [hts.out, H2.out], by rw [hts.out, H2.out]⟩
              case measure => simp [intOf]; omega
            · have H2 := Lib.hid (step_no_ge fi ne t c1 c2 c3)
              go_wp2
              go_round
              case rel => exact ⟨k + 1, by omega, by go_num, by rw [hts.out, H2.out], by rw [hts.out, H2.out], by rw [hts.out, H2.out]⟩
              case measure => simp [intOf]; omega
    · go_wp2
      go_ret2
      obtain rfl : k = xs.length := by omega
      exact ret2 (by rw [Hfin.out]) (by rw [Hfin.out])
end Go.Proofs.Ytnlmgpodfmmfmaa
