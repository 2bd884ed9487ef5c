/- The walk of the law LeaseSure. -/
import Derived.Test.YtnlmgpodfmmfmaaKnown
namespace Go.Proofs.Ytnlmgpodfmmfmaa
open Go.RowKit

theorem tmod_bd (a k : Int) (hk : 0 < k) : -k < a.tmod k ∧ a.tmod k < k := by
  constructor
  · have h1 := Int.tmod_lt_of_pos (-a) hk
    rw [Int.neg_tmod] at h1
    omega
  · exact Int.tmod_lt_of_pos a hk

theorem rowSure (w : World) (o : Obj) (nq : Nat) (s : Int) : Row (((w.alloc o).alloc (.cells #[.int .i64 s, .int .i64 (-1)] 2)).drewN nq) (some ⟨w.heap.size + 1, 0, none⟩) [s, -1] :=
  row_below (row_lit (w.alloc o) _ [s, -1] (by simp)) (below_drewN (Below.refl _ _) nq)

theorem untilSure (s now : Int) (h0 : 0 ≤ s) (h1 : s ≤ now) (h2 : s ≤ 4611686018427387904) : untilR now [s, -1] = s + 20 := by
  have hp : pos [s, -1] = [s] := by simp [pos, h0]
  unfold untilR
  rw [hp, if_neg (by simp)]
  have ht : (topS now [s]).2 = s := by
    simp only [topS, List.foldl_nil]
    split <;> omega
  rw [ht, laterS, if_pos (by omega)]

set_option maxHeartbeats 1000000 in
theorem lawSure (a0 a1 a2 a3 : Int) (w : World) :
    Calls Try.prog 5 #[.agg #[.int .i64 a0, .int .i64 a1, .int .i64 a2, .int .i64 a3]] w (RetB true w) := by
  have b0 := tmod_bd a0 1099511627776 (by decide)
  have b1 := tmod_bd a1 3 (by decide)
  have b2 := tmod_bd a2 100 (by decide)
  have b3 := tmod_bd a3 200 (by decide)
  generalize e0 : a0.tmod 1099511627776 = s at *
  generalize e1 : a1.tmod 3 = m1 at *
  generalize e2 : a2.tmod 100 = m2 at *
  generalize e3 : a3.tmod 200 = m3 at *
  go_enter Try.func5, Try.ntmps5
  go_wp2
  go_quiet (fail)
  go_wp2_with (go_at_call 10; refine (until_len _ _ 2 2 [_, -1] _ rfl (by decide) (rowSure _ _ _ _) (by omega) (by omega) (by intro t ht; simp at ht; omega)).mono ?_; rintro e w1 ⟨rfl, hb⟩; rw [untilSure _ _ (by omega) (by omega) (by omega)])
  all_goals
    have hb0 : Below w.heap.size w w1 := by
      refine Below.trans ?_ (hb.mono (by simp; omega))
      exact below_drewN (((Below.refl _ _).alloc (Nat.le_refl _) _).alloc (by simp) _) _
    clear hb e0 e1 e2 e3
    go_loopw [11] (fun v wr => ∃ o : Int, -2 ≤ o ∧ o ≤ 3 ∧ v = .int .i64 o ∧ Below w.heap.size w wr) (fun v _ => (3 - intOf v).toNat)
    case atStart => exact ⟨-2, by omega, by omega, rfl, hb0⟩
    case round =>
      obtain ⟨o, ho1, ho2, rfl, hbr⟩ := hrel
      clear hb0
      go_wp2_with (first
        | (go_at_call 11; refine (holds_any _ _ _).mono ?_; rintro e w2 ⟨rfl, rfl⟩)
        | (go_at_call 13; refine (waits_any _ _ _ (by omega) (by omega)).mono ?_; rintro e w2 ⟨rfl, hb2⟩; rw [waits_yes (.inr (by omega))])
        | (go_at_call 17; refine (works_any _).mono ?_; rintro e w2 ⟨rfl, hb2⟩))
      all_goals first
        | (refine ⟨⟨o + 1, by omega, by omega, rfl, ?_⟩, by simp [intOf]; omega⟩
           repeat (first | assumption | (refine grew_trans ?_ (by assumption))))
        | (go_ret
           refine retB rfl ?_
           repeat (first | assumption | (refine grew_trans ?_ (by assumption))))
end Go.Proofs.Ytnlmgpodfmmfmaa
