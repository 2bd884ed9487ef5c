/- Whether a log may be. -/
import Derived.Test.YthfchmdfoaiibaaLeaf2
namespace Go.Proofs.Ythfchmdfoaiibaa
open Go.RowKit Go.Joins

/-- may an entry be? -/
def okE (e : Ent) : Bool := decide (1 ≤ e.1) && ((decide (e.2.1 = 1) || decide (e.2.1 = 2)) && (decide (e.2.2.1 = 0) && decide (e.2.2.2 = 0)) || decide (e.2.1 = 3) && (decide (1 ≤ e.2.2.1) && decide (1 ≤ e.2.2.2)))
/-- an entry's numbers are such as Go's are. -/
def wfE (e : Ent) : Prop := 0 ≤ e.1 ∧ 0 ≤ e.2.2.1 ∧ 0 ≤ e.2.2.2

set_option maxRecDepth 100000 in
set_option maxHeartbeats 1000000 in
theorem wrong_any (x1 x2 x3 x4 : Int) (w : World) (hw : wfE (x1, x2, x3, x4)) : Calls Try.prog 45 #[.agg #[.int .u64 x1, .int .i64 x2, .int .u64 x3, .int .u64 x4]] w (RetB (!okE (x1, x2, x3, x4)) w) := by
  obtain ⟨hw1, hw3, hw4⟩ := hw
  simp only at hw1 hw3 hw4
  have HB : Hid (∀ (o1 : Obj), Below w.heap.size w (w.alloc o1)) := fun o1 => ((Below.refl _ w).alloc (Nat.le_refl _) o1)
  have hO : Hid (okE (x1, x2, x3, x4) = (decide (1 ≤ x1) && ((decide (x2 = 1) || decide (x2 = 2)) && (decide (x3 = 0) && decide (x4 = 0)) || decide (x2 = 3) && (decide (1 ≤ x3) && decide (1 ≤ x4))))) := rfl
  have hq := fun w y3 y4 => neq31 w x3 x4 y3 y4
  have hgd := grd31
  by_cases k1 : x2 = 1
  · subst k1
    by_cases hz : x3 = 0 ∧ x4 = 0
    · obtain ⟨rfl, rfl⟩ := hz
      have hE : eqG (0, 0) (0, 0) = true := rfl
      by_cases ht : x1 < 1
      · go_enter Try.func45, Try.ntmps45
        go_wp2
        all_goals
          go_ret
          exact retB (by rw [hO.out]; first | (simp; done) | (simp; omega) | (rw [Bool.eq_iff_iff]; simp; omega) | (rw [Bool.eq_iff_iff]; simp; done)) (HB.out _)
      · have ht2 : 1 ≤ x1 := by omega
        clear ht
        go_enter Try.func45, Try.ntmps45
        go_wp2
        all_goals
          go_ret
          exact retB (by rw [hO.out]; first | (simp; done) | (simp; omega) | (rw [Bool.eq_iff_iff]; simp; omega) | (rw [Bool.eq_iff_iff]; simp; done)) (HB.out _)
    · have hE : eqG (x3, x4) (0, 0) = false := by unfold eqG; simp; omega
      have HZ := Lib.hid hz
      clear hz
      go_enter Try.func45, Try.ntmps45
      go_wp2
      all_goals
        go_ret
        exact retB (by have := HZ.out; rw [hO.out]; first | (simp; done) | (simp; omega) | (rw [Bool.eq_iff_iff]; simp; omega) | (rw [Bool.eq_iff_iff]; simp; done)) (HB.out _)
  by_cases k2 : x2 = 2
  · subst k2
    by_cases hz : x3 = 0 ∧ x4 = 0
    · obtain ⟨rfl, rfl⟩ := hz
      have hE : eqG (0, 0) (0, 0) = true := rfl
      by_cases ht : x1 < 1
      · go_enter Try.func45, Try.ntmps45
        go_wp2
        all_goals
          go_ret
          exact retB (by rw [hO.out]; first | (simp; done) | (simp; omega) | (rw [Bool.eq_iff_iff]; simp; omega) | (rw [Bool.eq_iff_iff]; simp; done)) (HB.out _)
      · have ht2 : 1 ≤ x1 := by omega
        clear ht
        go_enter Try.func45, Try.ntmps45
        go_wp2
        all_goals
          go_ret
          exact retB (by rw [hO.out]; first | (simp; done) | (simp; omega) | (rw [Bool.eq_iff_iff]; simp; omega) | (rw [Bool.eq_iff_iff]; simp; done)) (HB.out _)
    · have hE : eqG (x3, x4) (0, 0) = false := by unfold eqG; simp; omega
      have HZ := Lib.hid hz
      clear hz
      go_enter Try.func45, Try.ntmps45
      go_wp2
      all_goals
        go_ret
        exact retB (by have := HZ.out; rw [hO.out]; first | (simp; done) | (simp; omega) | (rw [Bool.eq_iff_iff]; simp; omega) | (rw [Bool.eq_iff_iff]; simp; done)) (HB.out _)
  by_cases k3 : x2 = 3
  · subst k3
    clear k1 k2
    by_cases ht : x1 < 1
    · go_enter Try.func45, Try.ntmps45
      go_wp2
      all_goals
        go_ret
        exact retB (by rw [hO.out]; first | (simp; done) | (simp; omega) | (rw [Bool.eq_iff_iff]; simp; omega) | (rw [Bool.eq_iff_iff]; simp; done)) (HB.out _)
    · have ht2 : 1 ≤ x1 := by omega
      clear ht
      by_cases h3 : x3 = 0
      · subst h3
        go_enter Try.func45, Try.ntmps45
        go_wp2
        all_goals
          go_ret
          exact retB (by rw [hO.out]; first | (simp; done) | (simp; omega) | (rw [Bool.eq_iff_iff]; simp; omega) | (rw [Bool.eq_iff_iff]; simp; done)) (HB.out _)
      · have h3p : 0 < x3 := by omega
        clear h3
        by_cases h4 : x4 = 0
        · subst h4
          go_enter Try.func45, Try.ntmps45
          go_wp2
          all_goals
            go_ret
            exact retB (by rw [hO.out]; first | (simp; done) | (simp; omega) | (rw [Bool.eq_iff_iff]; simp; omega) | (rw [Bool.eq_iff_iff]; simp; done)) (HB.out _)
        · have h4p : 0 < x4 := by omega
          clear h4
          go_enter Try.func45, Try.ntmps45
          go_wp2
          all_goals
            go_ret
            exact retB (by rw [hO.out]; first | (simp; done) | (simp; omega) | (rw [Bool.eq_iff_iff]; simp; omega) | (rw [Bool.eq_iff_iff]; simp; done)) (HB.out _)
  · have b1 : (x2 == 1) = false := by simpa using k1
    have b2 : (x2 == 2) = false := by simpa using k2
    have b3 : (x2 == 3) = false := by simpa using k3
    have K := Lib.hid (And.intro k1 (And.intro k2 k3))
    clear k1 k2 k3
    go_enter Try.func45, Try.ntmps45
    go_wp2
    all_goals
      go_ret
      exact retB (by rw [hO.out]; first | (simp [K.out.1, K.out.2.1, K.out.2.2]; done) | (simp [K.out.1, K.out.2.1, K.out.2.2]; omega) | (rw [Bool.eq_iff_iff]; simp [K.out.1, K.out.2.1, K.out.2.2]; omega) | (rw [Bool.eq_iff_iff]; simp [K.out.1, K.out.2.1, K.out.2.2]; done)) (HB.out _)

set_option maxRecDepth 100000 in
set_option maxHeartbeats 1000000 in
theorem entry_any (x1 x2 x3 x4 : Int) (w : World) (hw : wfE (x1, x2, x3, x4)) : Calls Try.prog 46 #[.agg #[.int .u64 x1, .int .i64 x2, .int .u64 x3, .int .u64 x4]] w (RetB (okE (x1, x2, x3, x4)) w) := by
  obtain ⟨hw1, hw3, hw4⟩ := hw
  simp only at hw1 hw3 hw4
  have HB : Hid (∀ (o1 : Obj), Below w.heap.size w (w.alloc o1)) := fun o1 => ((Below.refl _ w).alloc (Nat.le_refl _) o1)
  have hO : Hid (okE (x1, x2, x3, x4) = (decide (1 ≤ x1) && ((decide (x2 = 1) || decide (x2 = 2)) && (decide (x3 = 0) && decide (x4 = 0)) || decide (x2 = 3) && (decide (1 ≤ x3) && decide (1 ≤ x4))))) := rfl
  have hq := fun w y3 y4 => eql31 w x3 x4 y3 y4
  have hgd := grd31
  by_cases ht : x1 < 1
  · go_enter Try.func46, Try.ntmps46
    go_wp2
    all_goals
      go_ret
      exact retB (by rw [hO.out]; first | (simp; done) | (simp; omega) | (rw [Bool.eq_iff_iff]; simp; omega) | (rw [Bool.eq_iff_iff]; simp; done)) (HB.out _)
  have ht2 : 1 ≤ x1 := by omega
  clear ht
  by_cases hk : x2 < 1
  · go_enter Try.func46, Try.ntmps46
    go_wp2
    all_goals
      go_ret
      exact retB (by rw [hO.out]; first | (simp; done) | (simp; omega) | (rw [Bool.eq_iff_iff]; simp; omega) | (rw [Bool.eq_iff_iff]; simp; done)) (HB.out _)
  have hk2 : 1 ≤ x2 := by omega
  clear hk
  by_cases hg : 3 < x2
  · go_enter Try.func46, Try.ntmps46
    go_wp2
    all_goals
      go_ret
      exact retB (by rw [hO.out]; first | (simp; done) | (simp; omega) | (rw [Bool.eq_iff_iff]; simp; omega) | (rw [Bool.eq_iff_iff]; simp; done)) (HB.out _)
  have hg2 : x2 ≤ 3 := by omega
  clear hg
  by_cases k3 : x2 = 3
  · subst k3
    by_cases h3 : x3 = 0
    · subst h3
      go_enter Try.func46, Try.ntmps46
      go_wp2
      all_goals
        go_ret
        exact retB (by rw [hO.out]; first | (simp; done) | (simp; omega) | (rw [Bool.eq_iff_iff]; simp; omega) | (rw [Bool.eq_iff_iff]; simp; done)) (HB.out _)
    · have h3p : 1 ≤ x3 := by omega
      clear h3
      by_cases h4 : x4 = 0
      · subst h4
        go_enter Try.func46, Try.ntmps46
        go_wp2
        all_goals
          go_ret
          exact retB (by rw [hO.out]; first | (simp; done) | (simp; omega) | (rw [Bool.eq_iff_iff]; simp; omega) | (rw [Bool.eq_iff_iff]; simp; done)) (HB.out _)
      · have h4p : 1 ≤ x4 := by omega
        clear h4
        go_enter Try.func46, Try.ntmps46
        go_wp2
        all_goals
          go_ret
          exact retB (by rw [hO.out]; first | (simp; done) | (simp; omega) | (rw [Bool.eq_iff_iff]; simp; omega) | (rw [Bool.eq_iff_iff]; simp; done)) (HB.out _)
  · have b3 : (x2 == 3) = false := by simpa using k3
    have K := Lib.hid k3
    clear k3
    by_cases hz : x3 = 0 ∧ x4 = 0
    · obtain ⟨rfl, rfl⟩ := hz
      have hE : eqG (0, 0) (0, 0) = true := rfl
      go_enter Try.func46, Try.ntmps46
      go_wp2
      all_goals
        go_ret
        exact retB (by have := K.out; rw [hO.out]; first | (simp; done) | (simp; omega) | (rw [Bool.eq_iff_iff]; simp; omega) | (rw [Bool.eq_iff_iff]; simp; done)) (HB.out _)
    · have hE : eqG (x3, x4) (0, 0) = false := by unfold eqG; simp; omega
      have HZ := Lib.hid hz
      clear hz
      go_enter Try.func46, Try.ntmps46
      go_wp2
      all_goals
        go_ret
        exact retB (by have := HZ.out; have := K.out; rw [hO.out]; first | (simp; done) | (simp; omega) | (rw [Bool.eq_iff_iff]; simp; omega) | (rw [Bool.eq_iff_iff]; simp; done)) (HB.out _)
end Go.Proofs.Ythfchmdfoaiibaa
