/- Plain mathematics of leases: the order of stamps does not matter, and a later stamp never makes a lease shorter. -/
import Derived.Test.YtnlmgpodfmmfmaaRef
namespace Go.Proofs.Ytnlmgpodfmmfmaa

/-- how many are v at least. -/
def cnt (v : Int) (l : List Int) : Nat := l.countP fun x => decide (v ≤ x)

theorem cnt_cons (v x : Int) (l : List Int) : cnt v (x :: l) = cnt v l + if v ≤ x then 1 else 0 := by
  unfold cnt; rw [List.countP_cons]; simp

theorem top_cnt (q : List Int) : ∀ (f s : Int), s ≤ f → ∀ v : Int,
    (v ≤ (q.foldl topStep (f, s)).2 ↔ 2 ≤ cnt v (f :: s :: q)) := by
  induction q with
  | nil =>
    intro f s h v
    simp only [List.foldl_nil, cnt_cons]
    simp only [cnt, List.countP_nil]
    split <;> split <;> omega
  | cons t q ih =>
    intro f s h v
    simp only [List.foldl_cons]
    by_cases h1 : f < t
    · rw [show topStep (f, s) t = (t, f) by simp [topStep, h1], ih t f (by omega) v]
      simp only [cnt_cons]
      repeat' split
      all_goals omega
    · by_cases h2 : s < t
      · rw [show topStep (f, s) t = (f, t) by simp [topStep, h1, h2], ih f t (by omega) v]
        simp only [cnt_cons]
        repeat' split
        all_goals omega
      · rw [show topStep (f, s) t = (f, s) by simp [topStep, h1, h2], ih f s (by omega) v]
        simp only [cnt_cons]
        repeat' split
        all_goals omega

theorem topS_cnt (now : Int) (q : List Int) (hq : q ≠ []) (v : Int) : v ≤ (topS now q).2 ↔ 2 ≤ cnt v (now :: q) := by
  cases q with
  | nil => exact absurd rfl hq
  | cons x r =>
    show v ≤ (r.foldl topStep (if now < x then (x, now) else (now, x))).2 ↔ _
    by_cases h : now < x
    · rw [if_pos h, top_cnt r _ _ (by omega) v]; simp only [cnt_cons]; omega
    · rw [if_neg h, top_cnt r _ _ (by omega) v]

theorem laterS_mono (a b k : Int) (h : a ≤ b) : laterS a k ≤ laterS b k := by
  unfold laterS; split <;> split <;> omega

theorem untilR_reverse (now : Int) (xs : List Int) : untilR now xs.reverse = untilR now xs := by
  have hp : pos xs.reverse = (pos xs).reverse := by simp [pos, List.filter_reverse]
  unfold untilR
  rw [hp]
  by_cases h : pos xs = []
  · simp [h]
  · rw [if_neg (by simpa using h), if_neg h]
    have key : ∀ v, v ≤ (topS now (pos xs).reverse).2 ↔ v ≤ (topS now (pos xs)).2 := by
      intro v
      rw [topS_cnt _ _ (by simpa using h), topS_cnt _ _ h]
      rw [cnt_cons, cnt_cons]; unfold cnt; rw [List.countP_reverse]
    have h1 := (key (topS now (pos xs).reverse).2).1 (Int.le_refl _)
    have h2 := (key (topS now (pos xs)).2).2 (Int.le_refl _)
    rw [show (topS now (pos xs).reverse).2 = (topS now (pos xs)).2 by omega]

theorem cnt_pos_set (v : Int) (xs : List Int) : ∀ (i : Nat) (y : Int), xs.getD i 0 ≤ y → cnt v (pos xs) ≤ cnt v (pos (xs.set i y)) := by
  induction xs with
  | nil => intro i y _; simp
  | cons x xs ih =>
    intro i y h
    cases i with
    | zero =>
      simp only [List.getD_cons_zero] at h
      simp only [List.set_cons_zero, pos, List.filter_cons]
      by_cases h1 : 0 ≤ x
      · rw [if_pos (by simpa using h1), if_pos (by simp; omega), cnt_cons, cnt_cons]
        split <;> split <;> omega
      · rw [if_neg (by simpa using h1)]
        split
        · rw [cnt_cons]; omega
        · omega
    | succ i =>
      have := ih i y (by simpa using h)
      simp only [List.set_cons_succ, pos, List.filter_cons] at this ⊢
      split
      · rw [cnt_cons, cnt_cons]; omega
      · exact this

theorem pos_ne (xs : List Int) : pos xs ≠ [] ↔ 1 ≤ cnt 0 (pos xs) := by
  have hp : ∀ t ∈ pos xs, 0 ≤ t := by intro t ht; simp [pos] at ht; exact ht.2
  generalize pos xs = q at *
  cases q with
  | nil => simp [cnt]
  | cons x q => simp [cnt_cons, hp x (by simp)]

theorem untilR_mono (now : Int) (xs : List Int) (i : Nat) (y : Int) (hy : xs.getD i 0 ≤ y) (hp : pos xs ≠ []) : untilR now xs ≤ untilR now (xs.set i y) := by
  have hc := fun v => cnt_pos_set v xs i y hy
  have hp2 : pos (xs.set i y) ≠ [] := by rw [pos_ne]; have := (pos_ne xs).1 hp; have := hc 0; omega
  unfold untilR
  rw [if_neg hp, if_neg hp2]
  refine laterS_mono _ _ _ ?_
  rw [topS_cnt _ _ hp2]
  have := (topS_cnt now (pos xs) hp _).1 (Int.le_refl _)
  rw [cnt_cons] at this ⊢
  have := hc (topS now (pos xs)).2
  omega

theorem any_pos (xs : List Int) : (xs.any fun t => decide (0 ≤ t)) = true ↔ pos xs ≠ [] := by
  unfold pos
  rw [ne_eq, List.filter_eq_nil_iff]
  simp
end Go.Proofs.Ytnlmgpodfmmfmaa
