/- What was joined is there: plain. -/
import Derived.Test.YthfchmdfoaiibaaLaws
namespace Go.Proofs.Ythfchmdfoaiibaa
open Go.RowKit Go.Joins

/-- what is said of a log es, joined behind p with more: js. -/
structure JF (es : List Ent) (p : Nat) (more js : List Ent) : Prop where
  len : p + more.length ≤ js.length
  top : js.length ≤ es.length + more.length
  ahead : js.take p = es.take p
  term : ∀ i, i < more.length → (js.getD (p + i) default).1 = (more.getD i default).1
  again : ∀ i, i ≤ more.length → joinL js (p : Int) (more.take i) = js
  whole : joinL js (p : Int) more = js
  cut : js.length ≤ es.length → js ≠ es.take js.length → js.length = p + more.length
  more : es.length < js.length → js.length = p + more.length
theorem jf_of {es more : List Ent} {p : Nat} (hp : p ≤ es.length) : JF es p more (joinL es (p : Int) more) := by
  have hj : joinL es (p : Int) more = if com (es.drop p) more = more.length then es else es.take (p + com (es.drop p) more) ++ more.drop (com (es.drop p) more) := by
    rw [joinL, if_neg (by omega), Int.toNat_natCast]
  obtain ⟨h1, h2, h3⟩ := (com_iff (es.drop p) more (com (es.drop p) more)).1 (Nat.le_refl _)
  generalize com (es.drop p) more = c at *
  have hd : ∀ (l : List Ent) j, (l.drop p).getD j default = l.getD (p + j) default := fun l j => by simp [List.getD_eq_getElem?_getD]
  simp only [List.length_drop, hd] at h1 h3
  have base : ∀ js : List Ent, p + more.length ≤ js.length → (∀ i, i < more.length → (js.getD (p + i) default).1 = (more.getD i default).1) → ∀ i, i ≤ more.length → joinL js (p : Int) (more.take i) = js := fun js hl ht i hi => by
    have hc : com (js.drop p) (more.take i) = (more.take i).length := by
      have := (com_iff (js.drop p) (more.take i) (more.take i).length).2 ⟨by simp; omega, Nat.le_refl _, fun j hj => by
        have hj' : j < i := by simp at hj; omega
        rw [hd, ht j (by omega)]
        simp [List.getD_eq_getElem?_getD, hj']⟩
      have h4 := ((com_iff (js.drop p) (more.take i) (com (js.drop p) (more.take i))).1 (Nat.le_refl _)).2.1
      omega
    rw [joinL, if_neg (by omega), Int.toNat_natCast, if_pos hc]
  have main : p + more.length ≤ (joinL es (p : Int) more).length ∧ (joinL es (p : Int) more).length ≤ es.length + more.length ∧ (joinL es (p : Int) more).take p = es.take p ∧ (∀ i, i < more.length → ((joinL es (p : Int) more).getD (p + i) default).1 = (more.getD i default).1) ∧ (joinL es (p : Int) more = es ∨ (joinL es (p : Int) more).length = p + more.length) := by
    rw [hj]
    by_cases hc : c = more.length
    · rw [if_pos hc]
      refine ⟨by omega, by omega, rfl, fun i hi => h3 i (by omega), .inl rfl⟩
    · rw [if_neg hc]
      have hl : (es.take (p + c) ++ more.drop c).length = p + more.length := by simp; omega
      refine ⟨by omega, by omega, ?_, fun i hi => ?_, .inr hl⟩
      · rw [List.take_append_of_le_length (by simp; omega), List.take_take]
        congr 1
        omega
      · by_cases hi2 : i < c
        · rw [← h3 i hi2]
          simp only [List.getD_eq_getElem?_getD]
          rw [List.getElem?_append_left (by simp; omega), List.getElem?_take_of_lt (by omega)]
        · simp only [List.getD_eq_getElem?_getD]
          rw [List.getElem?_append_right (by simp; omega), List.getElem?_drop]
          congr 3
          simp; omega
  obtain ⟨m1, m2, m3, m4, m5⟩ := main
  refine ⟨m1, m2, m3, m4, base _ m1 m4, ?_, fun hl hn => ?_, fun hl => ?_⟩
  · have := base _ m1 m4 more.length (Nat.le_refl _)
    rwa [List.take_length] at this
  · rcases m5 with h | h
    · exfalso; apply hn; rw [h, List.take_length]
    · exact h
  · rcases m5 with h | h
    · rw [h] at hl; omega
    · exact h
theorem joinL_bad {es more : List Ent} {p : Int} (h : p < 0 ∨ (es.length : Int) < p) : joinL es p more = es := by rw [joinL, if_pos h]
end Go.Proofs.Ythfchmdfoaiibaa
