/- What is put goes, once, in order, in time: the plain law; what lies where. -/
import Derived.Test.YtkojjnkohnokoaaFairP
namespace Go.Proofs.Ytkojjnkohnokoaa
open Go.RowKit Go.Joins

/-! ### Plain -/
/-- behind these frames. -/
def addTo (q : Nat → List BA) (l : List Fr) : Nat → List BA := fun j => q j ++ (l.filter fun x => x.1 == j).map (·.2)
theorem addTo_nil (q : Nat → List BA) : addTo q [] = q := by funext j; simp [addTo]
theorem addTo_snoc (q : Nat → List BA) (l : List Fr) (x : Fr) : addTo q (l ++ [x]) = upd (addTo q l) x.1 (addTo q l x.1 ++ [x.2]) := by
  funext j
  by_cases h : j = x.1
  · subst h; simp [addTo, upd]
  · have : ¬ x.1 = j := fun e => h e.symm
    simp [addTo, upd, h, this]
theorem addTo_take (q : Nat → List BA) {l : List Fr} {k : Nat} (h : k < l.length) : addTo q (l.take (k + 1)) = upd (addTo q (l.take k)) (l.getD k default).1 (addTo q (l.take k) (l.getD k default).1 ++ [(l.getD k default).2]) := by
  rw [take_snoc l k default h, addTo_snoc]
theorem filter_map (k j : Nat) (g : List BA) : ((g.map fun b => (k, b)).filter fun x : Fr => x.1 == j).map (·.2) = if k = j then g else [] := by
  induction g with
  | nil => simp
  | cons x g ih =>
    by_cases h : k = j
    · rw [if_pos h] at ih ⊢; simp [h] at ih ⊢; exact ih
    · rw [if_neg h] at ih ⊢; simp [h] at ih ⊢
theorem roundTo_addTo (q : Nat → List BA) (s : St) (k j : Nat) : addTo q (roundTo k s).2 j = q j ++ if j < k then (lround (s.q j) (s.c j)).1 else [] := by
  induction k with
  | zero => simp [roundTo, addTo]
  | succ k ih =>
    have e : addTo q ((roundTo k s).2 ++ (lround (s.q k) (s.c k)).1.map fun b => (k, b)) j = addTo q (roundTo k s).2 j ++ if k = j then (lround (s.q k) (s.c k)).1 else [] := by
      simp only [addTo, List.filter_append, List.map_append, filter_map, List.append_assoc]
    simp only [roundTo]
    rw [e, ih]
    by_cases h : j = k
    · subst h; simp
    · have h2 : ¬ k = j := fun e => h e.symm
      rw [if_neg h2, List.append_nil]
      by_cases h3 : j < k
      · rw [if_pos h3, if_pos (by omega)]
      · rw [if_neg h3, if_neg (by omega)]
/-- what was put, is what went and what waits. -/
def Same (qp qw : Nat → List BA) (s : St) : Prop := ∀ j, j < 6 → qp j = qw j ++ s.q j
theorem same_round {qp qw : Nat → List BA} {s : St} (h : Same qp qw s) : Same qp (addTo qw (roundF s)) (roundS s) := by
  intro j hj
  rw [h j hj, roundF, roundTo_addTo, if_pos hj, roundS_q s hj, List.append_assoc, ← lround_app]
theorem put_ok {s : St} {lk : Int} {b : BA} (h : putE s lk b = 0) : ∃ k : Nat, k < 6 ∧ lk = k ∧ putS s lk b = { s with q := upd s.q k (s.q k ++ [b]) } := by
  unfold putE at h
  split at h
  · cases h
  · next h1 =>
    split at h
    · cases h
    · next h2 =>
      split at h
      · cases h
      · next h3 =>
        refine ⟨lk.toNat, by omega, by omega, ?_⟩
        simp only [putS, if_neg h1, if_neg h2, if_neg h3]
theorem put_no {s : St} {lk : Int} {b : BA} (h : putE s lk b ≠ 0) : putS s lk b = s := by
  unfold putE at h
  unfold putS
  split
  · rfl
  · next h1 =>
    split
    · rfl
    · next h2 =>
      split
      · rfl
      · next h3 => exact absurd (by rw [if_neg h1, if_neg h2, if_neg h3]) h
theorem same_put {qp qw : Nat → List BA} {s : St} {k : Nat} {b : BA} (h : Same qp qw s) : Same (upd qp k (qp k ++ [b])) qw { s with q := upd s.q k (s.q k ++ [b]) } := by
  intro j hj
  by_cases hk : j = k
  · subst hk; simp only [upd_same]; rw [h j hj, List.append_assoc]
  · simp only [upd_other hk]; exact h j hj
/-- so many rounds on. -/
def Due (T : Nat → Int) (i : Nat) (s : St) : Prop := ∀ j, j < 6 → s.q j = [] ∨ (bytes (s.q j) - s.c j ≤ T j - 80 * i ∧ (i = 0 ∨ s.c j < bytes (s.q j)))
theorem due_zero {s : St} (hg : Good s) : Due (fun j => bytes (s.q j)) 0 s := fun j hj => .inr ⟨by have := (hg j hj).2.1; simp; omega, .inl rfl⟩
theorem due_round {T : Nat → Int} {i : Nat} {s : St} (h : Due T i s) : Due T (i + 1) (roundS s) := by
  intro j hj
  rw [roundS_q s hj, roundS_c s hj]
  by_cases hq : s.q j = []
  · left; rw [lround, if_pos hq]
  · by_cases hr : (lround (s.q j) (s.c j)).2.1 = []
    · exact .inl hr
    · have e : lround (s.q j) (s.c j) = ((drain (s.q j) (s.c j + 80)).1, (drain (s.q j) (s.c j + 80)).2.1, if (drain (s.q j) (s.c j + 80)).2.1 = [] then 0 else (drain (s.q j) (s.c j + 80)).2.2) := by rw [lround, if_neg hq]
      rw [e] at hr ⊢
      simp only at hr ⊢
      rw [if_neg hr]
      obtain ⟨x, r, hx⟩ := List.exists_cons_of_ne_nil hr
      have h1 := drain_credit (s.q j) (s.c j + 80)
      have h2 := drain_head hx
      have h3 := congrArg bytes (drain_app (s.q j) (s.c j + 80))
      rw [bytes_append] at h3
      rcases h j hj with h4 | ⟨h4, -⟩
      · exact absurd h4 hq
      · right
        have h5 : (x.size : Int) ≤ bytes (drain (s.q j) (s.c j + 80)).2.1 := by rw [hx, bytes_cons]; have := bytes_nonneg r; omega
        refine ⟨by push_cast; omega, .inr (by omega)⟩
theorem due_end {T : Nat → Int} {i : Nat} {s : St} (h : Due T i s) (hg : Good s) (hT : ∀ j, j < 6 → T j ≤ 80 * i) (h0 : i = 0 → ∀ j, j < 6 → T j = bytes (s.q j)) : ∀ j, j < 6 → s.q j = [] := by
  intro j hj
  rcases h j hj with h1 | ⟨h1, h2⟩
  · exact h1
  · have h3 := hT j hj
    cases hq : s.q j with
    | nil => rfl
    | cons x r =>
      exfalso
      rcases h2 with h2 | h2
      · subst h2
        have h4 := h0 rfl j hj
        rw [hq, bytes_cons] at h4
        have := bytes_nonneg r
        have := ((hg j hj).1.2 x (by rw [hq]; simp)).1
        simp at h3
        omega
      · omega
theorem empty_round {s : St} (h : ∀ j, j < 6 → s.q j = []) : roundF s = [] ∧ lenS s = 0 := by
  have h0 := h 0 (by omega)
  have h1 := h 1 (by omega)
  have h2 := h 2 (by omega)
  have h3 := h 3 (by omega)
  have h4 := h 4 (by omega)
  have h5 := h 5 (by omega)
  constructor
  · simp [roundF, roundTo, lround, h0, h1, h2, h3, h4, h5]
  · simp [lenS, lenTo, h0, h1, h2, h3, h4, h5]

/-! ### Memory -/
theorem arr_new (w : World) (base : Nat) (hb : base ≤ w.heap.size) : Arr tab6 (w.alloc (.cells #[.slice none 0 0, .slice none 0 0, .slice none 0 0, .slice none 0 0, .slice none 0 0, .slice none 0 0] 44)) base w.heap.size 44 (fun _ => .slice none 0 0) (fun _ => []) :=
  ⟨World.alloc_heap_new w _, hb, fun i _ => que_nil _ _, fun i _ => by simp [Value.ownBlock], fun i j _ _ _ g hg => by simp [Value.ownBlock] at hg⟩
section
variable {t : TypeId} {W w w' : World} {F F0 : Nat → Prop} {p bp bw : Nat} {s s' : St} {qp qw : Nat → List BA}
theorem One.mod' {S : Nat → Prop} (h : One t W w F p s) (hm : Mod S w w') (hS : ∀ k, S k → F k) (hn : ∀ k, S k → W.heap.size ≤ k) : One t W w' (fun k => F k ∨ (w.heap.size ≤ k ∧ k < w'.heap.size)) p s := by
  obtain ⟨vs, h1, h2, h3⟩ := h
  refine ⟨vs, h1.trans (hm.below h1.size hn), h2.mod hm (fun k hk hs => (h3 k (hS k hs)).1 hk), fun k hk => ?_⟩
  rcases hk with hk | hk
  · exact ⟨(h3 k hk).1, Nat.lt_of_lt_of_le (h3 k hk).2 hm.size⟩
  · exact ⟨fun c => by have := (h2.lt k c).2; omega, hk.2⟩
/-- the object, and the two rows of six; the blocks F0 are none of theirs. -/
def TE (W w : World) (F0 : Nat → Prop) (p bp bw : Nat) (s : St) (qp qw : Nat → List BA) : Prop :=
  ∃ vp vw, One 56 W w (fun k => Foot bp vp k ∨ Foot bw vw k ∨ F0 k) p s ∧ Arr tab6 w W.heap.size bp 44 vp qp ∧ Arr tab6 w W.heap.size bw 44 vw qw ∧ (∀ k, Foot bp vp k → ¬ Foot bw vw k) ∧ ∀ k, F0 k → ¬ Foot bp vp k ∧ ¬ Foot bw vw k
theorem TE.bel (h : TE W w F0 p bp bw s qp qw) : Below W.heap.size W w := by obtain ⟨_, _, h, _⟩ := h; exact h.bel
theorem TE.swap (h : TE W w F0 p bp bw s qp qw) : TE W w F0 p bw bp s qw qp := by
  obtain ⟨vp, vw, h1, h2, h3, h4, h5⟩ := h
  refine ⟨vw, vp, h1.less (fun k hk => ?_), h3, h2, fun k hk c => h4 k c hk, fun k hk => ⟨(h5 k hk).2, (h5 k hk).1⟩⟩
  rcases hk with hk | hk | hk
  · exact .inr (.inl hk)
  · exact .inl hk
  · exact .inr (.inr hk)
theorem TE.less {F1 : Nat → Prop} (h : TE W w F0 p bp bw s qp qw) (hF : ∀ k, F1 k → F0 k) : TE W w F1 p bp bw s qp qw := by
  obtain ⟨vp, vw, h1, h2, h3, h4, h5⟩ := h
  exact ⟨vp, vw, h1.less (fun k hk => hk.imp id (fun c => c.imp id (hF k))), h2, h3, h4, fun k hk => h5 k (hF k hk)⟩
theorem TE.below (h : TE W w F0 p bp bw s qp qw) (hb : Below w.heap.size w w') : TE W w' F0 p bp bw s qp qw := by
  obtain ⟨vp, vw, h1, h2, h3, h4, h5⟩ := h
  exact ⟨vp, vw, h1.below hb, h2.below hb, h3.below hb, h4, h5⟩
theorem te_new (hb : Arr tab6 w W.heap.size bp 44 (fun _ => .slice none 0 0) (fun _ => [])) (hw : Arr tab6 w W.heap.size bw 44 (fun _ => .slice none 0 0) (fun _ => []))
    (hne : bp ≠ bw) (hF : One 56 W w (fun k => k = bp ∨ k = bw) p s) : TE W w (fun _ => False) p bp bw s (fun _ => []) (fun _ => []) := by
  have hft : ∀ b k, Foot b (fun _ => Value.slice none 0 0) k → k = b := fun b k hk => by
    rcases hk with hk | ⟨_, _, hk⟩
    · exact hk
    · simp [Value.ownBlock] at hk
  refine ⟨_, _, hF.less (fun k hk => ?_), hb, hw, fun k hk hk2 => ?_, fun k hk => hk.elim⟩
  · rcases hk with hk | hk | hk
    · exact .inl (hft _ k hk)
    · exact .inr (hft _ k hk)
    · exact hk.elim
  · have a := hft _ k hk
    have b := hft _ k hk2
    omega
theorem te_start (h : One 56 W w (fun _ => False) p new0) : TE W ((w.alloc (.cells #[.slice none 0 0, .slice none 0 0, .slice none 0 0, .slice none 0 0, .slice none 0 0, .slice none 0 0] 44)).alloc (.cells #[.slice none 0 0, .slice none 0 0, .slice none 0 0, .slice none 0 0, .slice none 0 0, .slice none 0 0] 44)) (fun _ => False) p w.heap.size (w.heap.size + 1) new0 (fun _ => []) (fun _ => []) := by
  have h2 := arr_new w W.heap.size h.bel.size
  have h3 := arr_new (w.alloc (.cells #[.slice none 0 0, .slice none 0 0, .slice none 0 0, .slice none 0 0, .slice none 0 0, .slice none 0 0] 44)) W.heap.size (by have := h.bel.size; simp; omega)
  rw [World.size_alloc] at h3
  exact te_new (h2.below (bel1 _ _)) h3 (by omega) ((h.more (((Below.refl _ w).alloc (Nat.le_refl _) _).alloc (by simp) _)).less (fun k hk => .inr (by simp; omega)))
theorem te_put {lk : Int} {b : BA} (h : TE W w F0 p bp bw s qp qw) : Calls Try.prog 11 #[.pointer (some ⟨p, 0, none⟩), .int .i64 lk, .string b] w (fun e w' => e = .returned (.int .i64 (putE s lk b)) ∧ TE W w' F0 p bp bw (putS s lk b) qp qw) := by
  obtain ⟨vp, vw, h1, h2, h3, h4, h5⟩ := h
  exact (o_put h1).mono fun e w' ⟨he, hO, hM⟩ => ⟨he, vp, vw, hO, h2.mod hM (fun k hk c => c.1 (.inl hk)), h3.mod hM (fun k hk c => c.1 (.inr (.inl hk))), h4, h5⟩
theorem te_round (h : TE W w F0 p bp bw s qp qw) (hg : Good s) : Calls Try.prog 9 #[.pointer (some ⟨p, 0, none⟩)] w (fun e w' => ∃ v, e = .returned v ∧ OwnL encF 3 46 w' w.heap.size v (roundF s) ∧ TE W w' (fun k => F0 k ∨ v.ownBlock = some k) p bp bw (roundS s) qp qw ∧ w.heap.size ≤ w'.heap.size) := by
  obtain ⟨vp, vw, h1, h2, h3, h4, h5⟩ := h
  refine (o_round h1 hg).mono fun e w' ⟨v, he, ho, hO, hM⟩ => ⟨v, he, ho, ⟨vp, vw, hO.less (fun k hk => ?_), h2.mod hM (fun k hk c => c.1 (.inl hk)), h3.mod hM (fun k hk c => c.1 (.inr (.inl hk))), h4, fun k hk => ?_⟩, hM.size⟩
  · rcases hk with hk | hk | hk | hk
    · exact .inl (.inl hk)
    · exact .inl (.inr (.inl hk))
    · exact .inl (.inr (.inr hk))
    · exact .inr hk
  · rcases hk with hk | hk
    · exact h5 k hk
    · have := (World.ownsRow.lt ho k hk).1
      exact ⟨fun c => by have := (h2.lt k c).2; omega, fun c => by have := (h3.lt k c).2; omega⟩
theorem te_len (h : TE W w F0 p bp bw s qp qw) (hg : Good s) : Calls Try.prog 14 #[.pointer (some ⟨p, 0, none⟩)] w (RetI (lenS s : Int) w) := by
  obtain ⟨vp, vw, h1, _⟩ := h; exact o_len h1 hg
theorem te_waits {lk : Int} (h : TE W w F0 p bp bw s qp qw) (hg : Good s) : Calls Try.prog 16 #[.pointer (some ⟨p, 0, none⟩), .int .i64 lk] w (SameI (waitsS s lk) w) := by
  obtain ⟨vp, vw, h1, _⟩ := h; exact o_waits h1 hg
/-- one cell of the second row. -/
theorem TE.went (h : TE W w F0 p bp bw s qp qw) {k : Nat} (hk : k < 6) : ∃ a cap, w.cell? ⟨bw, k, none⟩ = some (.slice a (qw k).length cap) ∧ w.frozen? ⟨bw, k, none⟩ = false ∧ Que w W.heap.size (.slice a (qw k).length cap) (qw k) ∧ (Value.slice a (qw k).length cap).ownBlock ≠ some bw ∧ bw < w.heap.size ∧ (∀ g, F0 g → (Value.slice a (qw k).length cap).ownBlock ≠ some g) ∧
    ∀ v' w1 b, Que w1 W.heap.size v' (qw k ++ [b]) → Mod (fun g => (Value.slice a (qw k).length cap).ownBlock = some g) w w1 → (∀ g, v'.ownBlock = some g → (Value.slice a (qw k).length cap).ownBlock = some g ∨ w.heap.size ≤ g) →
      TE W (w1.setCell ⟨bw, k, none⟩ v') F0 p bp bw s qp (upd qw k (qw k ++ [b])) ∧ ∃ S : Nat → Prop, Mod S w (w1.setCell ⟨bw, k, none⟩ v') ∧ ∀ g, F0 g → ¬ S g := by
  obtain ⟨vp, vw, h1, h2, h3, h4, h5⟩ := h
  obtain ⟨a, cap, hv, -⟩ := (h3.que k hk).form
  have hc := h3.cell tabs6 hk
  rw [Nat.mul_one, hv] at hc
  refine ⟨a, cap, hc, h3.frozen k, hv ▸ h3.que k hk, hv ▸ h3.np k hk, h3.plt, fun g hg c => (h5 g hg).2 (.inr ⟨k, hk, hv ▸ c⟩), fun v' w1 b hq hm hv' => ?_⟩
  obtain ⟨k1, k2, k3⟩ := h3.turn tabs6 hk hq (hm.mono (fun g _ hg => by rw [hv]; exact hg)) (fun g hg => by rw [hv]; exact hv' g hg)
  rw [Nat.mul_one] at k1 k2
  refine ⟨⟨vp, _, (h1.mod' k2 (fun k hk => .inr (.inl hk)) (fun k hk => (h3.lt k hk).1)).less (fun j hj => ?_), h2.mod k2 (fun j hj => h4 j hj), k1, fun j hj c => ?_, fun j hj => ⟨(h5 j hj).1, fun c => ?_⟩⟩, _, k2, fun g hg => (h5 g hg).2⟩
  · rcases hj with hj | hj | hj
    · exact .inl (.inl hj)
    · rcases k3 j hj with c | c
      · exact .inl (.inr (.inl c))
      · exact .inr ⟨c, (k1.lt j hj).2⟩
    · exact .inl (.inr (.inr hj))
  · rcases k3 j c with d | d
    · exact h4 j hj d
    · have := (h2.lt j hj).2; omega
  · rcases k3 j c with d | d
    · exact (h5 j hj).2 d
    · obtain ⟨vs, -, -, hF⟩ := h1
      have := (hF j (.inr (.inr hj))).2; omega
/-- what is none of theirs stays. -/
theorem TE.rest (h : TE W w F0 p bp bw s qp qw) {k : Nat} (hk : F0 k) : k < w.heap.size ∧ k ≠ bw := by
  obtain ⟨vp, vw, ⟨vs, -, -, hF⟩, h2, h3, h4, h5⟩ := h
  exact ⟨(hF k (.inr (.inr hk))).2, fun e => (h5 k hk).2 (.inl e)⟩
end
end Go.Proofs.Ytkojjnkohnokoaa
