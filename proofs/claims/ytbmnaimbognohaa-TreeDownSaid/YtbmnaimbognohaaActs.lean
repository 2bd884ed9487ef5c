/- Acts that came in, opened. -/
import Derived.Test.YtbmnaimbognohaaOpen
import Derived.Test.YtbmnaimbognohaaTurns
namespace Go.Proofs.Ytbmnaimbognohaa
open Go.RowKit
def pAct : CellsP := pFields 4 [(0, 1, pInt .i64), (1, 1, pInt .i64), (2, 1, pBool), (3, 1, pInt .i64)]
theorem opensAct : Opens Try.prog 29 pAct := by
  refine opens_struct Try.underlying29 (by kernel_rfl) ?_
  intro q hq
  simp only [List.mem_cons, List.not_mem_nil, or_false] at hq
  rcases hq with rfl | rfl | rfl | rfl
  · exact ⟨0, _, rfl, rfl, by kernel_rfl, opens_int Try.underlying3⟩
  · exact ⟨1, _, rfl, rfl, by kernel_rfl, opens_int Try.underlying3⟩
  · exact ⟨2, _, rfl, rfl, by kernel_rfl, opens_bool Try.underlying4⟩
  · exact ⟨3, _, rfl, rfl, by kernel_rfl, opens_int Try.underlying2⟩
theorem opensActs : Opens Try.prog 22 (pSlice 4 pAct) := opens_slice Try.underlying22 (by kernel_rfl) (by decide) opensAct
def encAct (x : Act) : List Value := [.int .i64 x.src, .int .i64 x.head, .bool x.behind, .int .i64 x.clock]
theorem act_of (w : World) (es : List Value) (h : pAct w es) : ∃ x : Act, es = encAct x ∧ ActOk x := by
  obtain ⟨hl, hf⟩ := h
  obtain ⟨c0, c1, c2, c3, rfl⟩ := list4 hl
  obtain ⟨n0, h0, _⟩ := hf (0, 1, pInt .i64) (by simp)
  obtain ⟨n1, h1, _⟩ := hf (1, 1, pInt .i64) (by simp)
  obtain ⟨b2, h2⟩ := hf (2, 1, pBool) (by simp)
  obtain ⟨n3, h3, w3⟩ := hf (3, 1, pInt .i64) (by simp)
  simp at h0 h1 h2 h3
  subst h0 h1 h2 h3
  exact ⟨⟨n0, n1, b2, n3⟩, rfl, bounds_i64 w3⟩
theorem acts_of {w : World} {cs : List Value} (h : pSlice 4 pAct w cs) : ∃ a len cap, ∃ l : List Act, cs = [.slice a len cap] ∧ l.length = len ∧ len ≤ cap ∧ cap ≤ maxLen ∧ Acts w a l ∧ ∀ x ∈ l, ActOk x := by
  obtain ⟨a, len, cap, l, hcs, hl, hlc, hcm, _, he, hk⟩ := list_of_slice encAct ActOk (act_of w) h
  refine ⟨a, len, cap, l, hcs, hl, hlc, hcm, fun i hi => ?_, hk⟩
  obtain ⟨b, off, ha, hb, hc⟩ := he i hi
  exact ⟨b, off, ha, hb, hc 0 (by omega), hc 1 (by omega), hc 2 (by omega), hc 3 (by omega)⟩
end Go.Proofs.Ytbmnaimbognohaa
