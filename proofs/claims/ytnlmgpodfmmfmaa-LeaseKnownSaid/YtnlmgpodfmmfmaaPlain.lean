/- Plain mathematics of leases: the second greatest of a time and some others, as the program reckons it and as the document defines it. -/
namespace Go.Proofs.Ytnlmgpodfmmfmaa

/-- what 'second' keeps: the first, the next, whether there is one. -/
structure Sec where
  first : Int
  next : Int
  is : Bool

def Sec.step (s : Sec) (t : Int) : Sec :=
  if t < 0 then s
  else if s.is = false ∨ s.next < min t s.first then ⟨max t s.first, min t s.first, true⟩
  else ⟨max t s.first, s.next, s.is⟩

def secS (first : Int) (l : List Int) : Sec := l.foldl Sec.step ⟨first, 0, false⟩

/-- the reference's: the two greatest. -/
def topStep (p : Int × Int) (x : Int) : Int × Int :=
  if p.1 < x then (x, p.1) else if p.2 < x then (p.1, x) else p

def pos (l : List Int) : List Int := l.filter fun t => decide (0 ≤ t)

def topS (now : Int) : List Int → Int × Int
  | [] => (now, now)
  | x :: r => r.foldl topStep (if now < x then (x, now) else (now, x))

theorem sec_pos (l : List Int) : ∀ s : Sec, l.foldl Sec.step s = (pos l).foldl Sec.step s := by
  induction l with
  | nil => intro s; rfl
  | cons t l ih =>
    intro s
    by_cases h : 0 ≤ t
    · simp only [pos, List.filter_cons, h, decide_true, if_true, List.foldl_cons]; exact ih _
    · simp only [pos, List.filter_cons, h, decide_false, List.foldl_cons, Bool.false_eq_true, if_false]
      rw [show s.step t = s by simp [Sec.step, show t < 0 by omega]]; exact ih _

theorem step_true (f n t : Int) (h : 0 ≤ t) : Sec.step ⟨f, n, true⟩ t = ⟨max t f, max n (min t f), true⟩ := by
  unfold Sec.step
  rw [if_neg (by omega)]
  by_cases c : n < min t f
  · rw [if_pos (.inr c)]; simp only [Sec.mk.injEq, and_true, true_and]; omega
  · rw [if_neg (by simp; omega)]; simp only [Sec.mk.injEq, and_true, true_and]; omega

theorem sec_top (l : List Int) (hl : ∀ t ∈ l, 0 ≤ t) : ∀ (f n : Int), n ≤ f →
    l.foldl Sec.step ⟨f, n, true⟩ = ⟨(l.foldl topStep (f, n)).1, (l.foldl topStep (f, n)).2, true⟩ := by
  induction l with
  | nil => intro f n _; rfl
  | cons t l ih =>
    intro f n hn
    have ht := hl t (by simp)
    have hr := ih (fun x hx => hl x (by simp [hx]))
    simp only [List.foldl_cons]
    by_cases h1 : f < t
    · have e1 : topStep (f, n) t = (t, f) := by simp [topStep, h1]
      rw [e1]
      by_cases h2 : n < f
      · rw [show Sec.step ⟨f, n, true⟩ t = ⟨t, f, true⟩ by rw [step_true _ _ _ ht]; simp only [Sec.mk.injEq, and_true]; omega]; exact hr _ _ (by omega)
      · obtain rfl : n = f := by omega
        rw [show Sec.step ⟨n, n, true⟩ t = ⟨t, n, true⟩ by rw [step_true _ _ _ ht]; simp only [Sec.mk.injEq, and_true]; omega]; exact hr _ _ (by omega)
    · by_cases h2 : n < t
      · rw [show topStep (f, n) t = (f, t) by simp [topStep, h1, h2], show Sec.step ⟨f, n, true⟩ t = ⟨f, t, true⟩ by rw [step_true _ _ _ ht]; simp only [Sec.mk.injEq, and_true]; omega]; exact hr _ _ (by omega)
      · rw [show topStep (f, n) t = (f, n) by simp [topStep, h1, h2], show Sec.step ⟨f, n, true⟩ t = ⟨f, n, true⟩ by rw [step_true _ _ _ ht]; simp only [Sec.mk.injEq, and_true]; omega]; exact hr _ _ (by omega)

theorem sec_is (l : List Int) (now : Int) : (secS now l).is = !(pos l).isEmpty := by
  unfold secS
  rw [sec_pos]
  have hp : ∀ t ∈ pos l, 0 ≤ t := by intro t ht; simp [pos] at ht; exact ht.2
  generalize pos l = q at *
  cases q with
  | nil => rfl
  | cons t q =>
    have := hp t (by simp)
    simp only [List.foldl_cons, List.isEmpty_cons, Bool.not_false]
    rw [show Sec.step ⟨now, 0, false⟩ t = ⟨max t now, min t now, true⟩ by simp [Sec.step]; omega]
    rw [sec_top q (fun x hx => hp x (by simp [hx])) _ _ (by omega)]

theorem sec_next (l : List Int) (now : Int) (h : pos l ≠ []) : (secS now l).next = (topS now (pos l)).2 := by
  unfold secS
  rw [sec_pos]
  have hp : ∀ t ∈ pos l, 0 ≤ t := by intro t ht; simp [pos] at ht; exact ht.2
  generalize pos l = q at *
  cases q with
  | nil => exact absurd rfl h
  | cons t q =>
    have := hp t (by simp)
    simp only [List.foldl_cons, topS]
    rw [show Sec.step ⟨now, 0, false⟩ t = ⟨max t now, min t now, true⟩ by simp [Sec.step]; omega]
    rw [sec_top q (fun x hx => hp x (by simp [hx])) _ _ (by omega)]
    by_cases hn : now < t
    · rw [if_pos hn, show max t now = t by omega, show min t now = now by omega]
    · rw [if_neg hn, show max t now = now by omega, show min t now = t by omega]

end Go.Proofs.Ytnlmgpodfmmfmaa
