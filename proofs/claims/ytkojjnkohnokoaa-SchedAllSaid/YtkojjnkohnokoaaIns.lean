/- Acts that came in, opened. -/
import Derived.Test.YtkojjnkohnokoaaOpen
import Derived.Test.YtkojjnkohnokoaaPlays
namespace Go.Proofs.Ytkojjnkohnokoaa
open Go.RowKit
def pAc : CellsP := pFields 3 [(0, 1, pBool), (1, 1, pInt .i64), (2, 1, pInt .i64)]
theorem opensAc : Opens Try.prog 33 pAc := by
  refine opens_struct Try.underlying33 (by kernel_rfl) ?_
  intro q hq
  simp only [List.mem_cons, List.not_mem_nil, or_false] at hq
  rcases hq with rfl | rfl | rfl
  · exact ⟨0, _, rfl, rfl, by kernel_rfl, opens_bool Try.underlying4⟩
  · exact ⟨1, _, rfl, rfl, by kernel_rfl, opens_int Try.underlying3⟩
  · exact ⟨2, _, rfl, rfl, by kernel_rfl, opens_int Try.underlying3⟩
theorem opensAcs : Opens Try.prog 22 (pSlice 3 pAc) := opens_slice Try.underlying22 (by kernel_rfl) (by decide) opensAc
theorem ac_of (w : World) (es : List Value) (h : pAc w es) : ∃ x : Ac, es = encA x ∧ True := by
  obtain ⟨hl, hf⟩ := h
  obtain ⟨c0, c1, c2, rfl⟩ := list3 hl
  obtain ⟨n0, h0⟩ := hf (0, 1, pBool) (by simp)
  obtain ⟨n1, h1, -⟩ := hf (1, 1, pInt .i64) (by simp)
  obtain ⟨n2, h2, -⟩ := hf (2, 1, pInt .i64) (by simp)
  simp at h0 h1 h2
  subst h0 h1 h2
  exact ⟨(n0, n1, n2), rfl, trivial⟩
theorem acts_of {w : World} {cs : List Value} (h : pSlice 3 pAc w cs) : ∃ a len cap, ∃ l : List Ac, cs = [.slice a len cap] ∧ l.length = len ∧ len ≤ maxLen ∧ Lst encA 3 w a l := by
  obtain ⟨a, len, cap, l, hcs, hl, hlc, hcm, hn, he, hk⟩ := list_of_slice encA (fun _ => True) (ac_of w) h
  refine ⟨a, len, cap, l, hcs, hl, Nat.le_trans hlc hcm, fun i hi => ?_⟩
  obtain ⟨b, off, ha, hb, hc⟩ := he i hi
  refine ⟨b, off, ha, fun j u hu => ?_⟩
  have hj : j < 3 := by have := (List.getElem?_eq_some_iff.1 hu).1; simpa [encA] using this
  have := hc j hj
  rw [hu] at this
  rw [Nat.add_assoc]
  exact this
end Go.Proofs.Ytkojjnkohnokoaa
