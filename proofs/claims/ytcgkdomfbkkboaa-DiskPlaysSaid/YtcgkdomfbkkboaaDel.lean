/- A row that the call owns, cut at its end; cells that are written behind it; clear. -/
import Derived.Test.YtcgkdomfbkkboaaElem
import Derived.Deep.Upon
import Derived.Lib.SliceRun
import Derived.Deep.RegionLaw
namespace Go.Proofs.Ytcgkdomfbkkboaa
open Go.RowKit Go.Joins

theorem setCell_blk' {w : World} {p i : Nat} {cs : Array Value} {t : TypeId} {v : Value} (h : w.heap[p]? = some (.cells cs t (0, 0))) : (w.setCell ⟨p, i, none⟩ v).heap[p]? = some (.cells (cs.setIfInBounds i v) t (0, 0)) := by
  simp only [World.setCell]
  rw [Array.getElem?_modify, if_pos rfl, h]
  rfl
theorem setCells_blk {b : Nat} {t : TypeId} : ∀ (vs : List Value) (o : Nat) (w : World) (cs : Array Value), w.heap[b]? = some (.cells cs t (0, 0)) →
    ∃ cs', (w.setCells b o vs).heap[b]? = some (.cells cs' t (0, 0)) ∧ cs'.size = cs.size ∧ ∀ i, i < o → cs'[i]? = cs[i]?
  | [], _, _, cs, h => ⟨cs, h, rfl, fun _ _ => rfl⟩
  | v :: r, o, w, cs, h => by
    obtain ⟨cs', h1, h2, h3⟩ := setCells_blk r (o + 1) _ _ (setCell_blk' (i := o) (v := v) h)
    refine ⟨cs', h1, by simpa using h2, fun i hi => ?_⟩
    rw [h3 i (by omega), Array.getElem?_setIfInBounds_ne (by omega)]
theorem setCells_mod {b : Nat} : ∀ (vs : List Value) (o : Nat) (w : World), Mod (fun k => k = b) w (w.setCells b o vs)
  | [], _, w => Mod.refl _ w
  | v :: r, o, _ => (Mod.cellOf b o v).trans (setCells_mod r (o + 1) _)
section
variable {α : Type} {enc : α → List Value} {sz : Nat} {e : TypeId} {w : World} {base g n m cap : Nat} {xs : List α}
theorem OwnL.prefix (E : Enc enc sz) (h : OwnL enc sz e w base (.slice (some ⟨g, 0, none⟩) n cap) xs) (hm : m ≤ xs.length) : OwnL enc sz e w base (.slice (some ⟨g, 0, none⟩) m cap) (xs.take m) := by
  have hl : (xs.take m).length = m := by simp; omega
  refine ⟨flatOf_length E _, .inr ?_⟩
  rcases h.2 with ⟨e, _⟩ | ⟨g', cap', cur, e1, hb, hg, h1, h2, h3, h4⟩
  · cases e
  · simp at e1
    obtain ⟨rfl, rfl, rfl⟩ := e1
    refine ⟨g, cap, cur, by rw [hl], hb, hg, by omega, h2, h3, ?_⟩
    rw [flatOf_take E, ← h4, List.take_take, hl, Nat.min_eq_left (Nat.mul_le_mul_right _ hm)]
theorem OwnL.setCells (h : OwnL enc sz e w base (.slice (some ⟨g, 0, none⟩) n cap) xs) (o : Nat) (ho : xs.length * sz ≤ o) (vs : List Value) : OwnL enc sz e (w.setCells g o vs) base (.slice (some ⟨g, 0, none⟩) n cap) xs := by
  refine ⟨h.1, .inr ?_⟩
  rcases h.2 with ⟨e, _⟩ | ⟨g', cap', cur, e1, hb, hg, h1, h2, h3, h4⟩
  · cases e
  · simp at e1
    obtain ⟨rfl, rfl, rfl⟩ := e1
    obtain ⟨cs', c1, c2, c3⟩ := setCells_blk vs o w cur hg
    refine ⟨g, cap, cs', rfl, hb, c1, h1, h2, by omega, ?_⟩
    rw [← h4]
    apply List.ext_getElem?
    intro i
    by_cases hi : i < xs.length * sz
    · rw [List.getElem?_take_of_lt hi, List.getElem?_take_of_lt hi]
      have := c3 i (by omega)
      simpa using this
    · rw [List.getElem?_eq_none (by simp; omega), List.getElem?_eq_none (by simp; omega)]
end
/-- clear of one element. -/
theorem run_clear_one {P : Program} (w : World) (t e ty : TypeId) (z : Value) (zs : List Value) (ht : P.underlying t = some (.slice e)) (hv : ∀ w, (zeroValue e).run P w = .ok z w) (hz : z.cells.toList = zs) (h1 : ∀ v ∈ zs, v.oneCell' = true) (b o c : Nat)
    (hc : ∀ j, j < zs.length → (w.cell? ⟨b, o + j, none⟩).isSome = true) (hf : ∀ j, j < zs.length → w.frozen? ⟨b, o + j, none⟩ = false) :
    (Builtin.clear_ #[t] ty #[.slice (some ⟨b, o, none⟩) 1 c]).run P w = .ok (.tuple #[]) (w.setCells b o zs) := by
  have hzc : (Builtin.zeroCells z.cells 1).toList = zs := by
    rw [← hz]
    apply List.ext_getElem?
    intro i
    simp [Builtin.zeroCells]
    by_cases hi : i < z.cells.size
    · simp [hi, Nat.mod_eq_of_lt hi]
    · simp [hi]
  have hst := run_storeCells_cells (P := P) b o zs 0 w (by simpa using hc) (by simpa using hf) h1
  simp only [Nat.add_zero] at hst
  simp [Builtin.clear_, run_underlying ht, hv, hzc, hst]
end Go.Proofs.Ytcgkdomfbkkboaa
