/- What came in to CoreBegins, opened. -/
import Derived.Test.YtcleaamjfjnkkaaGreatRz7
namespace Go.Proofs.YtcleaamjfjnkkaaGreat
open Go.RowKit
def pHard : CellsP := pFields 3 [(0, 1, pInt .u64), (1, 1, pInt .i64), (2, 1, pSlice 4 pEnt)]
theorem opensHard : Opens Tryz.prog 25 pHard := by
  refine opens_struct Tryz.underlying25 (by kernel_rfl) ?_
  intro q hq
  simp only [List.mem_cons, List.not_mem_nil, or_false] at hq
  rcases hq with rfl | rfl | rfl
  · exact ⟨0, _, rfl, rfl, by kernel_rfl, opens_int Tryz.underlying22⟩
  · exact ⟨1, _, rfl, rfl, by kernel_rfl, opens_int Tryz.underlying3⟩
  · exact ⟨2, _, rfl, rfl, by kernel_rfl, opensEnts⟩
theorem hard_of {w : World} {cs : List Value} (h : pHard w cs) : ∃ t v a len cap, ∃ l : List Ent, cs = [.int .u64 t, .int .i64 v, .slice a len cap] ∧ (0 ≤ t ∧ t ≤ 18446744073709551615) ∧ l.length = len ∧ InE w a cap l := by
  obtain ⟨hl, hf⟩ := h
  obtain ⟨c0, c1, c2, rfl⟩ := list3 hl
  obtain ⟨t, h0, w0⟩ := hf (0, 1, pInt .u64) (by simp)
  obtain ⟨v, h1, _⟩ := hf (1, 1, pInt .i64) (by simp)
  have h2 := hf (2, 1, pSlice 4 pEnt) (by simp)
  obtain ⟨a, len, cap, l, hcs, hll, hin⟩ := ents_of h2
  simp at h0 h1 hcs
  subst h0 h1 hcs
  exact ⟨t, v, a, len, cap, l, rfl, wf_u64 w0, hll, hin⟩
theorem opensTimes : Opens Tryz.prog 26 (pArray 3 1 (pInt .i64)) := opens_array Tryz.underlying26 (by kernel_rfl) (by kernel_rfl) (opens_int Tryz.underlying2)
theorem times_of {w : World} {cs : List Value} (h : pArray 3 1 (pInt .i64) w cs) : ∃ x0 x1 x2, cs = [.int .i64 x0, .int .i64 x1, .int .i64 x2] ∧ I64 x0 ∧ I64 x1 ∧ I64 x2 := by
  obtain ⟨hl, hf⟩ := h
  obtain ⟨c0, c1, c2, rfl⟩ := list3 hl
  obtain ⟨x0, h0, w0⟩ := hf 0 (by omega)
  obtain ⟨x1, h1, w1⟩ := hf 1 (by omega)
  obtain ⟨x2, h2, w2⟩ := hf 2 (by omega)
  simp at h0 h1 h2
  subst h0 h1 h2
  exact ⟨x0, x1, x2, rfl, wf_i64 w0, wf_i64 w1, wf_i64 w2⟩
end Go.Proofs.YtcleaamjfjnkkaaGreat
