/- With more entries a lineage only grows: plain. -/
import Derived.Test.YthfchmdfoaiibaaLaws
namespace Go.Proofs.Ythfchmdfoaiibaa
open Go.RowKit Go.Joins

/-- what the first k entries say. -/
def St (es : List Ent) (k : Nat) : Line := foldL (es.take k)
theorem St_zero (es : List Ent) : St es 0 = (0, 0, false, []) := rfl
theorem St_succ {es : List Ent} {k : Nat} (h : k < es.length) : St es (k + 1) = lstep (St es k) (es.getD k default) := by
  unfold St
  rw [take_snoc es k default h, foldL_snoc]
/-- a step, in four cases. -/
theorem lstep_cases (s : Line) (e : Ent) :
    (e.2.1 = 1 ∧ lstep s e = (e.1, (s.2.2.2.length : Int), false, s.2.2.2)) ∨ (e.2.1 ≠ 1 ∧ lstep s e = (s.1, s.2.1, true, s.2.2.2)) ∨
    (e.2.1 ≠ 1 ∧ brings s e = true ∧ lstep s e = (s.1, s.2.1, s.2.2.1, s.2.2.2 ++ [(e.2.2.1, e.2.2.2)])) ∨ (e.2.1 ≠ 1 ∧ lstep s e = s) := by
  unfold lstep
  by_cases h1 : e.2.1 = 1
  · left; exact ⟨h1, by rw [if_pos h1]⟩
  · right
    rw [if_neg h1]
    by_cases h2 : e.2.1 = 2 ∧ e.1 = s.1
    · left; exact ⟨h1, by rw [if_pos h2]⟩
    · right
      rw [if_neg h2]
      by_cases h3 : brings s e = true
      · left; exact ⟨h1, h3, by rw [if_pos h3]⟩
      · right; exact ⟨h1, by rw [if_neg h3]⟩
theorem brings_is {s : Line} {e : Ent} (h : brings s e = true) : e.2.2.1 = s.1 ∧ (s.2.2.2.length = 0 ∨ aboveB (e.2.2.1, e.2.2.2) (lastG s.2.2.2) = true) := by
  unfold brings at h
  simp only [Bool.and_eq_true, Bool.or_eq_true, decide_eq_true_eq] at h
  exact ⟨by omega, h.2⟩

def chain (gs : List Gid) : Prop := ∀ i, i + 1 < gs.length → aboveB (gs.getD (i + 1) default) (gs.getD i default) = true
theorem chain_snoc {gs : List Gid} {g : Gid} (h : chain gs) (hg : gs.length = 0 ∨ aboveB g (lastG gs) = true) : chain (gs ++ [g]) := by
  intro i hi
  simp only [List.length_append, List.length_singleton] at hi
  have e1 : ∀ j, j < gs.length → (gs ++ [g]).getD j default = gs.getD j default := fun j hj => by
    simp only [List.getD_eq_getElem?_getD]; rw [List.getElem?_append_left hj]
  by_cases h1 : i + 1 < gs.length
  · rw [e1 _ h1, e1 _ (by omega)]; exact h i h1
  · have e2 : (gs ++ [g]).getD (i + 1) default = g := by
      rw [show i + 1 = gs.length by omega]; simp
    rw [e2, e1 _ (by omega)]
    rcases hg with h0 | h0
    · omega
    · rw [show i = gs.length - 1 by omega]; exact h0
structure Ok (s : Line) : Prop where
  lo : 0 ≤ s.2.1
  hi : s.2.1 ≤ s.2.2.2.length
  ch : chain s.2.2.2
theorem St_ok (es : List Ent) : ∀ k, k ≤ es.length → Ok (St es k) := by
  intro k
  induction k with
  | zero => intro _; rw [St_zero]; exact ⟨by simp, by simp, fun i hi => by simp at hi⟩
  | succ k ih =>
    intro hk
    have h := ih (by omega)
    rw [St_succ (by omega)]
    rcases lstep_cases (St es k) (es.getD k default) with ⟨_, e⟩ | ⟨_, e⟩ | ⟨_, hb, e⟩ | ⟨_, e⟩ <;> rw [e]
    · exact ⟨by simp, by simp, h.ch⟩
    · exact ⟨h.lo, h.hi, h.ch⟩
    · refine ⟨h.lo, ?_, chain_snoc h.ch (brings_is hb).2⟩
      have := h.hi
      simp; omega
    · exact h
theorem St_pre1 (es : List Ent) {k : Nat} (h : k < es.length) : (St es k).2.2.2 <+: (St es (k + 1)).2.2.2 := by
  rw [St_succ h]
  rcases lstep_cases (St es k) (es.getD k default) with ⟨_, e⟩ | ⟨_, e⟩ | ⟨_, _, e⟩ | ⟨_, e⟩ <;> rw [e]
  · exact List.prefix_refl _
  · exact List.prefix_refl _
  · exact List.prefix_append _ _
  · exact List.prefix_refl _
theorem St_pre (es : List Ent) {k m : Nat} (hkm : k ≤ m) (hm : m ≤ es.length) : (St es k).2.2.2 <+: (St es m).2.2.2 := by
  induction m with
  | zero => rw [show k = 0 by omega]; exact List.prefix_refl _
  | succ m ih =>
    by_cases h : k = m + 1
    · subst h; exact List.prefix_refl _
    · exact (ih (by omega) (by omega)).trans (St_pre1 es (by omega))
theorem St_leased (es : List Ent) {k m : Nat} (hkm : k ≤ m) (hm : m ≤ es.length) (hno : ∀ j, k ≤ j → j < m → (es.getD j default).2.1 ≠ 1) (hl : (St es k).2.2.1 = true) : (St es m).2.2.1 = true := by
  induction m with
  | zero => rw [show k = 0 by omega] at hl; exact hl
  | succ m ih =>
    by_cases h : k = m + 1
    · subst h; exact hl
    · have hi := ih (by omega) (by omega) (fun j h1 h2 => hno j h1 (by omega))
      rw [St_succ (by omega)]
      rcases lstep_cases (St es m) (es.getD m default) with ⟨h1, _⟩ | ⟨_, e⟩ | ⟨_, _, e⟩ | ⟨_, e⟩
      · exact absurd h1 (hno m (by omega) (by omega))
      · rw [e]
      · rw [e]; exact hi
      · rw [e]; exact hi
/-! ### Where terms do not fall -/
theorem sorted_le {es : List Ent} (h : sortedB es = true) : ∀ i j, i ≤ j → j < es.length → (es.getD i default).1 ≤ (es.getD j default).1 := by
  unfold sortedB at h
  rw [decide_eq_true_eq] at h
  intro i j hij hj
  induction j with
  | zero => rw [show i = 0 by omega]; exact Int.le_refl _
  | succ j ih =>
    by_cases e : i = j + 1
    · subst e; exact Int.le_refl _
    · exact Int.le_trans (ih (by omega) (by omega)) (h j (by omega))
structure Up (es : List Ent) (k : Nat) : Prop where
  next : ∀ j, k ≤ j → j < es.length → (St es k).1 ≤ (es.getD j default).1
  all : ∀ g ∈ (St es k).2.2.2, g.1 ≤ (St es k).1
theorem St_up {es : List Ent} (h : sortedB es = true) (hwf : ∀ i, i < es.length → wfE (es.getD i default)) : ∀ k, k ≤ es.length → Up es k := by
  intro k
  induction k with
  | zero => intro _; rw [show Up es 0 = Up es 0 from rfl]; exact ⟨fun j _ hj => by rw [St_zero]; exact (hwf j hj).1, fun g hg => by rw [St_zero] at hg; simp at hg⟩
  | succ k ih =>
    intro hk
    have hi := ih (by omega)
    have hs := St_succ (es := es) (k := k) (by omega)
    rcases lstep_cases (St es k) (es.getD k default) with ⟨_, e⟩ | ⟨_, e⟩ | ⟨_, hb, e⟩ | ⟨_, e⟩ <;> rw [e] at hs
    · refine ⟨fun j h1 h2 => by rw [hs]; exact sorted_le h k j (by omega) h2, fun g hg => ?_⟩
      rw [hs] at hg ⊢
      exact Int.le_trans (hi.all g hg) (hi.next k (Nat.le_refl _) (by omega))
    · refine ⟨fun j h1 h2 => by rw [hs]; exact hi.next j (by omega) h2, fun g hg => ?_⟩
      rw [hs] at hg ⊢
      exact hi.all g hg
    · refine ⟨fun j h1 h2 => by rw [hs]; exact hi.next j (by omega) h2, fun g hg => ?_⟩
      rw [hs] at hg ⊢
      rcases List.mem_append.1 hg with hg | hg
      · exact hi.all g hg
      · simp at hg; subst hg
        have := (brings_is hb).1
        show (es.getD k default).2.2.1 ≤ _
        rw [this]; exact Int.le_refl _
    · refine ⟨fun j h1 h2 => by rw [hs]; exact hi.next j (by omega) h2, fun g hg => ?_⟩
      rw [hs] at hg ⊢
      exact hi.all g hg
theorem St_epoch {es : List Ent} (h : sortedB es = true) (hwf : ∀ i, i < es.length → wfE (es.getD i default)) {k m : Nat} (hkm : k ≤ m) (hm : m ≤ es.length) :
    (St es k).1 ≤ (St es m).1 ∧ ∀ i, (St es k).2.2.2.length ≤ i → i < (St es m).2.2.2.length → (St es k).1 ≤ ((St es m).2.2.2.getD i default).1 := by
  induction m with
  | zero => rw [show k = 0 by omega]; exact ⟨Int.le_refl _, fun i h1 h2 => by omega⟩
  | succ m ih =>
    by_cases e : k = m + 1
    · subst e; exact ⟨Int.le_refl _, fun i h1 h2 => by omega⟩
    · obtain ⟨i1, i2⟩ := ih (by omega) (by omega)
      have hu := St_up h hwf m (by omega)
      have hs := St_succ (es := es) (k := m) (by omega)
      rcases lstep_cases (St es m) (es.getD m default) with ⟨_, e⟩ | ⟨_, e⟩ | ⟨_, hb, e⟩ | ⟨_, e⟩ <;> rw [e] at hs
      · rw [hs]
        exact ⟨Int.le_trans i1 (hu.next m (Nat.le_refl _) (by omega)), i2⟩
      · rw [hs]; exact ⟨i1, i2⟩
      · rw [hs]
        refine ⟨i1, fun i h1 h2 => ?_⟩
        simp only [List.length_append, List.length_singleton] at h2
        by_cases hi : i < (St es m).2.2.2.length
        · have := i2 i h1 hi
          simp only [List.getD_eq_getElem?_getD] at this ⊢
          rw [List.getElem?_append_left hi]; exact this
        · have hi2 : i = (St es m).2.2.2.length := by omega
          subst hi2
          have := (brings_is hb).1
          simp
          show (St es k).1 ≤ (es.getD m default).2.2.1
          rw [this]; exact i1
      · rw [hs]; exact ⟨i1, i2⟩
end Go.Proofs.Ythfchmdfoaiibaa
