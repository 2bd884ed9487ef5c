/- A scheduler (or its reference) in memory; a row of six lists. -/
import Derived.Test.YtkojjnkohnokoaaMod
namespace Go.Proofs.Ytkojjnkohnokoaa
open Go.RowKit Go.Joins

/-- where six queues lie among a block's cells. -/
structure Tabs (T : (Nat → Value) → Array Value) (st : Nat) : Prop where
  get : ∀ vs i, i < 6 → (T vs)[i * st]? = some (vs i)
  set : ∀ vs i v, i < 6 → (T vs).setIfInBounds (i * st) v = T (upd vs i v)
def tab12 (c : Nat → Int) (vs : Nat → Value) : Array Value := #[vs 0, .int .i64 (c 0), vs 1, .int .i64 (c 1), vs 2, .int .i64 (c 2), vs 3, .int .i64 (c 3), vs 4, .int .i64 (c 4), vs 5, .int .i64 (c 5)]
def tab6 (vs : Nat → Value) : Array Value := #[vs 0, vs 1, vs 2, vs 3, vs 4, vs 5]
theorem six {p : Nat → Prop} (h0 : p 0) (h1 : p 1) (h2 : p 2) (h3 : p 3) (h4 : p 4) (h5 : p 5) : ∀ i, i < 6 → p i := by
  intro i hi
  rcases i with _ | _ | _ | _ | _ | _ | i <;> first | assumption | omega
theorem tabs12 (c : Nat → Int) : Tabs (tab12 c) 2 :=
  ⟨fun vs => six rfl rfl rfl rfl rfl rfl, fun vs i v hi => by
    revert i
    exact six (by simp [tab12, upd]) (by simp [tab12, upd]) (by simp [tab12, upd]) (by simp [tab12, upd]) (by simp [tab12, upd]) (by simp [tab12, upd])⟩
theorem tabs6 : Tabs tab6 1 :=
  ⟨fun vs => six rfl rfl rfl rfl rfl rfl, fun vs i v hi => by
    revert i
    exact six (by simp [tab6, upd]) (by simp [tab6, upd]) (by simp [tab6, upd]) (by simp [tab6, upd]) (by simp [tab6, upd]) (by simp [tab6, upd])⟩
theorem tab12_c (c : Nat → Int) (vs : Nat → Value) : ∀ i, i < 6 → (tab12 c vs)[i * 2 + 1]? = some (.int .i64 (c i)) := six rfl rfl rfl rfl rfl rfl
theorem tab12_cset (c : Nat → Int) (vs : Nat → Value) (x : Int) : ∀ i, i < 6 → (tab12 c vs).setIfInBounds (i * 2 + 1) (.int .i64 x) = tab12 (upd c i x) vs :=
  six (by simp [tab12, upd]) (by simp [tab12, upd]) (by simp [tab12, upd]) (by simp [tab12, upd]) (by simp [tab12, upd]) (by simp [tab12, upd])

structure Arr (T : (Nat → Value) → Array Value) (w : World) (base p : Nat) (t : TypeId) (vs : Nat → Value) (q : Nat → List BA) : Prop where
  blk : w.heap[p]? = some (.cells (T vs) t (0, 0))
  bp : base ≤ p
  que : ∀ i, i < 6 → Que w base (vs i) (q i)
  np : ∀ i, i < 6 → (vs i).ownBlock ≠ some p
  nd : ∀ i j, i < 6 → j < 6 → i ≠ j → ∀ g, (vs i).ownBlock = some g → (vs j).ownBlock ≠ some g
abbrev Sch (w : World) (base p : Nat) (t : TypeId) (vs : Nat → Value) (s : St) : Prop := Arr (tab12 s.c) w base p t vs s.q
/-- what is its own. -/
def Foot (p : Nat) (vs : Nat → Value) (k : Nat) : Prop := k = p ∨ ∃ i, i < 6 ∧ (vs i).ownBlock = some k
section
variable {T T' : (Nat → Value) → Array Value} {st : Nat} {w w' : World} {base p : Nat} {t : TypeId} {vs : Nat → Value} {q : Nat → List BA}
theorem Arr.plt (h : Arr T w base p t vs q) : p < w.heap.size := (Array.getElem?_eq_some_iff.1 h.blk).1
theorem Arr.lt (h : Arr T w base p t vs q) (k : Nat) (hk : Foot p vs k) : base ≤ k ∧ k < w.heap.size := by
  rcases hk with rfl | ⟨i, hi, hg⟩
  · exact ⟨h.bp, h.plt⟩
  · exact (h.que i hi).lt hg
theorem cell_of {p j : Nat} {cs : Array Value} (h : w.heap[p]? = some (.cells cs t (0, 0))) {u : Value} (hu : cs[j]? = some u) : w.cell? ⟨p, j, none⟩ = some u := by
  simp [World.cell?, h, hu]
theorem frozen_of {p j : Nat} {cs : Array Value} (h : w.heap[p]? = some (.cells cs t (0, 0))) : w.frozen? ⟨p, j, none⟩ = false := by
  simp [World.frozen?, h]
theorem set_of {p j : Nat} {cs : Array Value} (h : w.heap[p]? = some (.cells cs t (0, 0))) (u : Value) : (w.setCell ⟨p, j, none⟩ u).heap[p]? = some (.cells (cs.setIfInBounds j u) t (0, 0)) := by
  simp [World.setCell, Array.getElem?_modify, h]
theorem Arr.cell (h : Arr T w base p t vs q) (hT : Tabs T st) {i : Nat} (hi : i < 6) : w.cell? ⟨p, i * st, none⟩ = some (vs i) := cell_of h.blk (hT.get vs i hi)
theorem Arr.frozen (h : Arr T w base p t vs q) (j : Nat) : w.frozen? ⟨p, j, none⟩ = false := frozen_of h.blk
theorem Arr.mod {S : Nat → Prop} (h : Arr T w base p t vs q) (hm : Mod S w w') (hs : ∀ k, Foot p vs k → ¬ S k) : Arr T w' base p t vs q :=
  ⟨(hm.block p h.plt (hs p (.inl rfl))).trans h.blk, h.bp, fun i hi => (h.que i hi).mod hm (fun g hg => hs g (.inr ⟨i, hi, hg⟩)), h.np, h.nd⟩
theorem Arr.below (h : Arr T w base p t vs q) (hb : Below w.heap.size w w') : Arr T w' base p t vs q :=
  ⟨(hb.block p h.plt).trans h.blk, h.bp, fun i hi => (h.que i hi).below hb, h.np, h.nd⟩
theorem Arr.mono {b' : Nat} (h : Arr T w base p t vs q) (hb : b' ≤ base) : Arr T w b' p t vs q :=
  ⟨h.blk, Nat.le_trans hb h.bp, fun i hi => (h.que i hi).mono hb, h.np, h.nd⟩
/-- one queue has turned, and its cell. -/
theorem Arr.turn (h : Arr T w base p t vs q) (hT : Tabs T st) {i : Nat} (hi : i < 6) {v' : Value} {xs : List BA} {w1 : World} (hq : Que w1 base v' xs) (hm : Mod (fun k => (vs i).ownBlock = some k) w w1) (hv : ∀ g, v'.ownBlock = some g → (vs i).ownBlock = some g ∨ w.heap.size ≤ g) :
    Arr T (w1.setCell ⟨p, i * st, none⟩ v') base p t (upd vs i v') (upd q i xs) ∧ Mod (Foot p vs) w (w1.setCell ⟨p, i * st, none⟩ v') ∧ ∀ k, Foot p (upd vs i v') k → Foot p vs k ∨ w.heap.size ≤ k := by
  have hb1 : w1.heap[p]? = some (.cells (T vs) t (0, 0)) := (hm.block p h.plt (h.np i hi)).trans h.blk
  have hpl := h.plt
  have fresh : ∀ g, v'.ownBlock = some g → g ≠ p := fun g hg e => by
    subst e
    rcases hv g hg with k | k
    · exact h.np i hi k
    · omega
  have keep : ∀ g, g ≠ p → (w1.setCell ⟨p, i * st, none⟩ v').heap[g]? = w1.heap[g]? := fun g hg => Below.heap_setCell _ _ _ _ hg
  refine ⟨⟨by rw [set_of hb1, hT.set vs i v' hi], h.bp, fun j hj => ?_, fun j hj => ?_, fun a b ha hb hab g hg => ?_⟩, ?_, fun k hk => ?_⟩
  · by_cases hji : j = i
    · subst hji
      rw [upd_same, upd_same]
      exact hq.same (by simp [World.setCell]) (fun g hg => keep g (fresh g hg))
    · rw [upd_other hji, upd_other hji]
      exact ((h.que j hj).mod hm (fun g hg c => h.nd j i hj hi hji g hg c)).same (by simp [World.setCell]) (fun g hg => keep g (fun e => h.np j hj (e ▸ hg)))
  · by_cases hji : j = i
    · subst hji; rw [upd_same]; exact fun e => fresh p e rfl
    · rw [upd_other hji]; exact h.np j hj
  · by_cases hai : a = i
    · subst hai
      rw [upd_same] at hg
      rw [upd_other (Ne.symm hab)]
      rcases hv g hg with k | k
      · exact h.nd a b ha hb hab g k
      · exact fun e => by have := ((h.que b hb).lt e).2; omega
    · rw [upd_other hai] at hg
      by_cases hbi : b = i
      · subst hbi
        rw [upd_same]
        intro e
        rcases hv g e with k | k
        · exact h.nd a b ha hb hab g hg k
        · have := ((h.que a ha).lt hg).2; omega
      · rw [upd_other hbi]; exact h.nd a b ha hb hab g hg
  · exact (hm.mono (fun k _ hk => Or.inr ⟨i, hi, hk⟩)).trans (Mod.setCell (S := Foot p vs) (p := ⟨p, i * st, none⟩) (.inl rfl) v')
  · rcases hk with rfl | ⟨j, hj, hg⟩
    · exact .inl (.inl rfl)
    · by_cases hji : j = i
      · subst hji
        rw [upd_same] at hg
        rcases hv k hg with c | c
        · exact .inl (.inr ⟨j, hj, c⟩)
        · exact .inr c
      · rw [upd_other hji] at hg; exact .inl (.inr ⟨j, hj, hg⟩)
end
/-- another credit. -/
theorem Arr.credit {w : World} {base p : Nat} {t : TypeId} {vs : Nat → Value} {q : Nat → List BA} {c : Nat → Int} (h : Arr (tab12 c) w base p t vs q) {i : Nat} (hi : i < 6) (x : Int) : Arr (tab12 (upd c i x)) (w.setCell ⟨p, i * 2 + 1, none⟩ (.int .i64 x)) base p t vs q := by
  have keep : ∀ g, g ≠ p → (w.setCell ⟨p, i * 2 + 1, none⟩ (.int .i64 x)).heap[g]? = w.heap[g]? := fun g hg => Below.heap_setCell _ _ _ _ hg
  exact ⟨by rw [set_of h.blk, tab12_cset c vs x i hi], h.bp, fun j hj => (h.que j hj).same (by simp [World.setCell]) (fun g hg => keep g (fun e => h.np j hj (e ▸ hg))), h.np, h.nd⟩
theorem Arr.credit_get {w : World} {base p : Nat} {t : TypeId} {vs : Nat → Value} {q : Nat → List BA} {c : Nat → Int} (h : Arr (tab12 c) w base p t vs q) {i : Nat} (hi : i < 6) : w.cell? ⟨p, i * 2 + 1, none⟩ = some (.int .i64 (c i)) := cell_of h.blk (tab12_c c vs i hi)

/-- behind a method. -/
def Upd (base p : Nat) (t : TypeId) (vs : Nat → Value) (s : St) (w w' : World) : Prop := ∃ vs', Sch w' base p t vs' s ∧ Mod (Foot p vs) w w' ∧ ∀ k, Foot p vs' k → Foot p vs k ∨ w.heap.size ≤ k
theorem Upd.same {base p : Nat} {t : TypeId} {vs : Nat → Value} {s : St} {w : World} (h : Sch w base p t vs s) : Upd base p t vs s w w := ⟨vs, h, Mod.refl _ _, fun _ hk => .inl hk⟩
def RetU (v : Value) (P : World → Prop) (e : Ending) (w' : World) : Prop := e = .returned v ∧ P w'
def RetU0 (P : World → Prop) (e : Ending) (w' : World) : Prop := (∃ v, e = .returned v) ∧ P w'

/-! ### One text more, for the walk -/
section
variable {w : World} {base : Nat} {v : Value} {xs : List BA} {ops : Array Oper} {rest : List Oper} {o : Oper} {a : Act} {K : Act → World → Prop} {Q : Exit → Act → World → Prop} {X : Prop}
theorem wp_que (s x : Operand) (ho : o.op = .call { callee := .builtin .append, args := #[s, x], argTypes := #[26, 26] }) (hs : a.eval s = v) (h : Que w base v xs) (hb : base ≤ w.heap.size) (hl : xs.length ≤ 1000000) (ad : Addr) (c : Nat) (u : BA)
    (hx : a.eval x = .slice (some ad) 1 c) (hu : w.cell? ad = some (.string u))
    (hK : ∀ v' w', Que w' base v' (xs ++ [u]) → w.grownBy w' v.ownBlock → (∀ g, v'.ownBlock = some g → v.ownBlock = some g ∨ w.heap.size ≤ g) → K (a.put o.dst v') w') : o.wp Try.prog a w K Q := by
  obtain ⟨v', w', hrun, h2, h3, h4⟩ := run_que o.type h hb hl ad c u hu
  unfold Oper.wp execOp
  simp only [ho, resolve, invoke, builtin, Sem.run_bind, Sem.run_pure, Result.andThen_ok, List.map_toArray, List.map_cons, List.map_nil, hs, hx, hrun]
  exact hK v' w' h2 h3 h4
theorem wpList_que (hgd : o.guard = none) (s x : Operand) (ho : o.op = .call { callee := .builtin .append, args := #[s, x], argTypes := #[26, 26] }) (hs : a.eval s = v) (h : Que w base v xs) (hb : base ≤ w.heap.size) (hl : xs.length ≤ 1000000) (ad : Addr) (c : Nat) (u : BA)
    (hx : a.eval x = .slice (some ad) 1 c) (hu : w.cell? ad = some (.string u))
    (hK : ∀ v' w', Que w' base v' (xs ++ [u]) → w.grownBy w' v.ownBlock → (∀ g, v'.ownBlock = some g → v.ownBlock = some g ∨ w.heap.size ≤ g) → wpList Try.prog ops Q rest (a.put o.dst v') w') : wpList Try.prog ops Q (o :: rest) a w :=
  wpList_plain hgd fun _ hk => wp_que s x ho hs h hb hl ad c u hx hu fun v' w' h2 h3 h4 => hk _ _ (hK v' w' h2 h3 h4)
theorem step_que (hg : o.guard = none) (s x : Operand) (ho : o.op = .call { callee := .builtin .append, args := #[s, x], argTypes := #[26, 26] }) (hs : a.eval s = v) (h : Que w base v xs) (hb : base ≤ w.heap.size) (hl : xs.length ≤ 1000000) (ad : Addr) (c : Nat) (u : BA)
    (hx : a.eval x = .slice (some ad) 1 c) (hu : w.cell? ad = some (.string u))
    (hK : ∀ v' w', Que w' base v' (xs ++ [u]) → w.grownBy w' v.ownBlock → (∀ g, v'.ownBlock = some g → v.ownBlock = some g ∨ w.heap.size ≤ g) → K (a.put o.dst v') w') :
    if Region.wanted o (yielded ops a.tmps) = true then o.wp Try.prog a w K Q else X := by
  have hw : Region.wanted o (yielded ops a.tmps) = true := by simp [Region.wanted, hg]
  rw [if_pos hw]
  exact wp_que s x ho hs h hb hl ad c u hx hu hK
end
end Go.Proofs.Ytkojjnkohnokoaa
