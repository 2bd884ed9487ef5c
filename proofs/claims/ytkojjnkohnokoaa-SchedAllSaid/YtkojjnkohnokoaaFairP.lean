/- A link that always waits gets its share: the plain law. -/
import Derived.Test.YtkojjnkohnokoaaWorks
namespace Go.Proofs.Ytkojjnkohnokoaa
open Go.RowKit Go.Joins

/-- the bytes of the frames to link 2. -/
def goneOf (l : List Fr) : Int := (l.map fun x => if x.1 = 2 then (x.2.size : Int) else 0).sum
theorem goneOf_append (a b : List Fr) : goneOf (a ++ b) = goneOf a + goneOf b := by simp [goneOf]
theorem goneOf_map (k : Nat) (l : List BA) : goneOf (l.map fun b => (k, b)) = if k = 2 then bytes l else 0 := by
  by_cases h : k = 2
  · subst h
    rw [if_pos rfl, goneOf, bytes, List.map_map]
    congr 1
  · rw [if_neg h]
    induction l with
    | nil => rfl
    | cons x l ih => simp only [goneOf, List.map_cons, List.map_map, List.sum_cons, if_neg h] at ih ⊢; rw [ih]; rfl
theorem goneOf_round (s : St) : goneOf (roundF s) = bytes (lround (s.q 2) (s.c 2)).1 := by
  simp only [roundF, roundTo, goneOf_append, goneOf_map]
  simp [goneOf]
theorem goneOf_snoc {l : List Fr} {k : Nat} (h : k < l.length) : goneOf (l.take (k + 1)) = goneOf (l.take k) + (if (l.getD k default).1 = 2 then ((l.getD k default).2.size : Int) else 0) := by
  rw [take_snoc l k default h, goneOf_append]
  simp [goneOf]
theorem goneOf_bound {l : List Fr} (hl : l.length ≤ 24) (hb : ∀ x ∈ l, x.2.size ≤ 8192) (k : Nat) : 0 ≤ goneOf (l.take k) ∧ goneOf (l.take k) ≤ 196608 := by
  have key : ∀ (l : List Fr), (∀ x ∈ l, x.2.size ≤ 8192) → 0 ≤ goneOf l ∧ goneOf l ≤ l.length * 8192 := by
    intro l
    induction l with
    | nil => intro _; simp [goneOf]
    | cons x l ih =>
      intro h
      have h1 := ih (fun y hy => h y (List.mem_cons_of_mem _ hy))
      have h2 := h x (List.mem_cons_self ..)
      have e : goneOf (x :: l) = (if x.1 = 2 then (x.2.size : Int) else 0) + goneOf l := by simp [goneOf]
      rw [e, List.length_cons]
      push_cast
      split <;> omega
  have h1 := key (l.take k) (fun x hx => hb x (List.mem_of_mem_take hx))
  have h2 : (l.take k).length ≤ 24 := by simp; omega
  omega
theorem round_small {s : St} (hg : Good s) : ∀ x ∈ roundF s, x.2.size ≤ 8192 := by
  have key : ∀ k, k ≤ 6 → ∀ x ∈ (roundTo k s).2, x.2.size ≤ 8192 := by
    intro k
    induction k with
    | zero => intro _ x hx; simp [roundTo] at hx
    | succ k ih =>
      intro hk x hx
      simp only [roundTo, List.mem_append, List.mem_map] at hx
      rcases hx with hx | ⟨b, hb, rfl⟩
      · exact ih (by omega) x hx
      · have : b ∈ s.q k := by rw [lround_app (s.q k) (s.c k)]; exact List.mem_append_left _ hb
        exact ((hg k (by omega)).1.2 b this).2
  exact key 6 (Nat.le_refl _)
/-- what a round does to link 2. -/
theorem fair_round {s : St} {gone lg : Int} {i : Nat} (hc : gone + s.c 2 = 80 * i) (hne : s.q 2 ≠ []) (hg : Good s) (hl : ∀ b ∈ s.q 2, (b.size : Int) ≤ lg) (hr : (roundS s).q 2 ≠ []) :
    gone + goneOf (roundF s) + (roundS s).c 2 = 80 * (i + 1) ∧ 0 ≤ (roundS s).c 2 ∧ (roundS s).c 2 < lg ∧ ∀ b ∈ (roundS s).q 2, (b.size : Int) ≤ lg := by
  rw [roundS_q s (by omega)] at hr ⊢
  rw [roundS_c s (by omega), goneOf_round]
  have happ := lround_app (s.q 2) (s.c 2)
  have hcr := lround_credit (hg 2 (by omega)).2.1 (hg 2 (by omega)).2.2 (hg 2 (by omega)).1
  have hsub : ∀ b ∈ (lround (s.q 2) (s.c 2)).2.1, (b.size : Int) ≤ lg := fun b hb => hl b (by rw [happ]; exact List.mem_append_right _ hb)
  obtain ⟨x, r, hx⟩ := List.exists_cons_of_ne_nil hr
  have e : lround (s.q 2) (s.c 2) = ((drain (s.q 2) (s.c 2 + 80)).1, (drain (s.q 2) (s.c 2 + 80)).2.1, if (drain (s.q 2) (s.c 2 + 80)).2.1 = [] then 0 else (drain (s.q 2) (s.c 2 + 80)).2.2) := by rw [lround, if_neg hne]
  have hx2 := hx
  rw [e] at hx
  simp only at hx
  have hd := drain_credit (s.q 2) (s.c 2 + 80)
  have hh := drain_head hx
  have hxl := hsub x (by rw [hx2]; exact List.mem_cons_self ..)
  have hcd : (lround (s.q 2) (s.c 2)).2.2 = (drain (s.q 2) (s.c 2 + 80)).2.2 := by
    rw [e]; simp only; rw [if_neg (by rw [hx]; simp)]
  have h1 : (lround (s.q 2) (s.c 2)).1 = (drain (s.q 2) (s.c 2 + 80)).1 := by rw [e]
  rw [h1]
  rw [hcd] at hcr ⊢
  exact ⟨by omega, by omega, by omega, hsub⟩
theorem waits_zero {s : St} (hg : Good s) : waitsS s 2 = 0 ↔ s.q 2 = [] := by
  have e : waitsS s 2 = bytes (s.q 2) := by simp [waitsS]
  rw [e]
  constructor
  · intro h
    cases hq : s.q 2 with
    | nil => rfl
    | cons x r =>
      rw [hq, bytes_cons] at h
      have := bytes_nonneg r
      have := ((hg 2 (by omega)).1.2 x (by rw [hq]; simp)).1
      omega
  · intro h; rw [h]; rfl
/-- what a text that is put does to link 2. -/
theorem fair_put {s : St} {b : BA} {lg : Int} (h0 : 0 < b.size) (h1 : b.size ≤ 8192) (hlt : (s.q 2).length < 4) (hl : ∀ x ∈ s.q 2, (x.size : Int) ≤ lg) :
    putE s 2 b = 0 ∧ (putS s 2 b).c = s.c ∧ ((putS s 2 b).q 2).length = (s.q 2).length + 1 ∧ ∀ x ∈ (putS s 2 b).q 2, (x.size : Int) ≤ max lg b.size := by
  have e1 : ¬ ((2 : Int) < 0 ∨ 6 ≤ (2 : Int) ∨ b.size = 0) := by omega
  have e2 : ¬ 8192 < b.size := by omega
  have e3 : ¬ 4 ≤ (s.q (2 : Int).toNat).length := by show ¬ 4 ≤ (s.q 2).length; omega
  have e : putS s 2 b = { s with q := upd s.q 2 (s.q 2 ++ [b]) } := by
    simp only [putS, if_neg e1, if_neg e2, if_neg e3]; rfl
  refine ⟨by simp only [putE, if_neg e1, if_neg e2, if_neg e3], by rw [e], by rw [e]; simp [upd], fun x hx => ?_⟩
  rw [e] at hx
  simp only [upd, if_true, List.mem_append, List.mem_singleton] at hx
  rcases hx with hx | rfl
  · have := hl x hx; omega
  · omega
theorem fair_full {s : St} {b : BA} (h0 : 0 < b.size) (h1 : b.size ≤ 8192) (hlt : 4 ≤ (s.q 2).length) : putE s 2 b = 7 ∧ putS s 2 b = s := by
  have e1 : ¬ ((2 : Int) < 0 ∨ 6 ≤ (2 : Int) ∨ b.size = 0) := by omega
  have e2 : ¬ 8192 < b.size := by omega
  have e3 : 4 ≤ (s.q (2 : Int).toNat).length := hlt
  exact ⟨by simp only [putE, if_neg e1, if_neg e2, if_pos e3], by simp only [putS, if_neg e1, if_neg e2, if_pos e3]⟩
theorem put_other {s : St} {lk : Int} {b : BA} (h : lk < 2) : (putS s lk b).c = s.c ∧ (putS s lk b).q 2 = s.q 2 := by
  unfold putS
  split
  · exact ⟨rfl, rfl⟩
  · split
    · exact ⟨rfl, rfl⟩
    · split
      · exact ⟨rfl, rfl⟩
      · next h1 h2 h3 => exact ⟨rfl, upd_other (by omega)⟩
end Go.Proofs.Ytkojjnkohnokoaa
