/- Entries that came in, opened. -/
import Derived.Test.YthfchmdfoaiibaaOpen
import Derived.Test.YthfchmdfoaiibaaLaws
namespace Go.Proofs.Ythfchmdfoaiibaa
open Go.RowKit
def pGid : CellsP := pFields 2 [(0, 1, pInt .u64), (1, 1, pInt .u64)]
def pEnt : CellsP := pFields 4 [(0, 1, pInt .u64), (1, 1, pInt .i64), (2, 2, pGid)]
theorem opensGid : Opens Try.prog 31 pGid := by
  refine opens_struct Try.underlying31 (by kernel_rfl) ?_
  intro q hq
  simp only [List.mem_cons, List.not_mem_nil, or_false] at hq
  rcases hq with rfl | rfl
  · exact ⟨0, _, rfl, rfl, by kernel_rfl, opens_int Try.underlying23⟩
  · exact ⟨1, _, rfl, rfl, by kernel_rfl, opens_int Try.underlying23⟩
theorem opensEnt : Opens Try.prog 33 pEnt := by
  refine opens_struct Try.underlying33 (by kernel_rfl) ?_
  intro q hq
  simp only [List.mem_cons, List.not_mem_nil, or_false] at hq
  rcases hq with rfl | rfl | rfl
  · exact ⟨0, _, rfl, rfl, by kernel_rfl, opens_int Try.underlying23⟩
  · exact ⟨1, _, rfl, rfl, by kernel_rfl, opens_int Try.underlying3⟩
  · exact ⟨2, _, rfl, rfl, by kernel_rfl, opensGid⟩
theorem opensEnts : Opens Try.prog 22 (pSlice 4 pEnt) := opens_slice Try.underlying22 (by kernel_rfl) (by decide) opensEnt
theorem wf_u64 {n : Int} (h : (Lit.int .u64 n).wf = true) : 0 ≤ n := by
  simp [Lit.wf, IntKind.min, IntKind.max, IntKind.signed, IntKind.bits] at h; omega
theorem ent_of (w : World) (es : List Value) (h : pEnt w es) : ∃ x : Ent, es = encE x ∧ wfE x := by
  obtain ⟨hl, hf⟩ := h
  obtain ⟨c0, c1, c2, c3, rfl⟩ := list4 hl
  obtain ⟨n0, h0, w0⟩ := hf (0, 1, pInt .u64) (by simp)
  obtain ⟨n1, h1, _⟩ := hf (1, 1, pInt .i64) (by simp)
  obtain ⟨_, hg⟩ := hf (2, 2, pGid) (by simp)
  obtain ⟨n2, h2, w2⟩ := hg (0, 1, pInt .u64) (by simp)
  obtain ⟨n3, h3, w3⟩ := hg (1, 1, pInt .u64) (by simp)
  simp at h0 h1 h2 h3
  subst h0 h1 h2 h3
  exact ⟨(n0, n1, n2, n3), rfl, wf_u64 w0, wf_u64 w2, wf_u64 w3⟩
theorem ents_of {w : World} {cs : List Value} (h : pSlice 4 pEnt w cs) : ∃ a len cap, ∃ l : List Ent, cs = [.slice a len cap] ∧ l.length = len ∧ InE w a cap l := by
  obtain ⟨a, len, cap, l, hcs, hl, hlc, hcm, hn, he, hk⟩ := list_of_slice encE wfE (ent_of w) h
  refine ⟨a, len, cap, l, hcs, hl, fun i hi => ?_, hn, by omega, hcm, fun i hi => hk _ (by simp [hi])⟩
  obtain ⟨b, off, ha, hb, hc⟩ := he i hi
  refine ⟨b, off, ha, ?_⟩
  have h0 := hc 0 (by omega)
  have h1 := hc 1 (by omega)
  have h2 := hc 2 (by omega)
  have h3 := hc 3 (by omega)
  exact ⟨h0, h1, h2, h3⟩
end Go.Proofs.Ythfchmdfoaiibaa
