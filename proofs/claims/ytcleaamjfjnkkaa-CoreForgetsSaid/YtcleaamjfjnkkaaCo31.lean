/- What came in, opened. -/
import Derived.Test.YtcleaamjfjnkkaaLibA
import Derived.Test.YtcleaamjfjnkkaaCo30
namespace Go.Proofs.Ytcleaamjfjnkkaa
open Go.RowKit
def pGid : CellsP := pFields 2 [(0, 1, pInt .u64), (1, 1, pInt .u64)]
def pEnt : CellsP := pFields 4 [(0, 1, pInt .u64), (1, 1, pInt .i64), (2, 2, pGid)]
theorem opensGid : Opens Try.prog 28 pGid := by
  refine opens_struct Try.underlying28 (by kernel_rfl) ?_
  intro q hq
  simp only [List.mem_cons, List.not_mem_nil, or_false] at hq
  rcases hq with rfl | rfl
  · exact ⟨0, _, rfl, rfl, by kernel_rfl, opens_int Try.underlying24⟩
  · exact ⟨1, _, rfl, rfl, by kernel_rfl, opens_int Try.underlying24⟩
theorem opensEnt : Opens Try.prog 30 pEnt := by
  refine opens_struct Try.underlying30 (by kernel_rfl) ?_
  intro q hq
  simp only [List.mem_cons, List.not_mem_nil, or_false] at hq
  rcases hq with rfl | rfl | rfl
  · exact ⟨0, _, rfl, rfl, by kernel_rfl, opens_int Try.underlying24⟩
  · exact ⟨1, _, rfl, rfl, by kernel_rfl, opens_int Try.underlying3⟩
  · exact ⟨2, _, rfl, rfl, by kernel_rfl, opensGid⟩
theorem opensEnts : Opens Try.prog 22 (pSlice 4 pEnt) := opens_slice Try.underlying22 (by kernel_rfl) (by decide) opensEnt
theorem opensBytes : Opens Try.prog 23 (pSlice 1 (pInt .u8)) := opens_slice Try.underlying23 (by kernel_rfl) (by decide) (opens_int Try.underlying5)
theorem wf_u8 {n : Int} (h : (Lit.int .u8 n).wf = true) : 0 ≤ n ∧ n ≤ 255 := by
  simp [Lit.wf, IntKind.min, IntKind.max, IntKind.signed, IntKind.bits] at h; omega
theorem wf_u64 {n : Int} (h : (Lit.int .u64 n).wf = true) : 0 ≤ n ∧ n ≤ 18446744073709551615 := by
  simp [Lit.wf, IntKind.min, IntKind.max, IntKind.signed, IntKind.bits] at h; omega
theorem wf_i64 {n : Int} (h : (Lit.int .i64 n).wf = true) : I64 n := by
  simp [Lit.wf, IntKind.min, IntKind.max, IntKind.signed, IntKind.bits] at h; unfold I64; omega
def wfH (e : Ent) : Prop := wfE e ∧ e.1 ≤ 18446744073709551615
theorem ent_of (w : World) (es : List Value) (h : pEnt w es) : ∃ x : Ent, es = encE x ∧ wfH x := by
  obtain ⟨hl, hf⟩ := h
  obtain ⟨c0, c1, c2, c3, rfl⟩ := list4 hl
  obtain ⟨n0, h0, w0⟩ := hf (0, 1, pInt .u64) (by simp)
  obtain ⟨n1, h1, _⟩ := hf (1, 1, pInt .i64) (by simp)
  obtain ⟨_, hg⟩ := hf (2, 2, pGid) (by simp)
  obtain ⟨n2, h2, w2⟩ := hg (0, 1, pInt .u64) (by simp)
  obtain ⟨n3, h3, w3⟩ := hg (1, 1, pInt .u64) (by simp)
  simp at h0 h1 h2 h3
  subst h0 h1 h2 h3
  exact ⟨(n0, n1, n2, n3), rfl, ⟨(wf_u64 w0).1, (wf_u64 w2).1, (wf_u64 w3).1⟩, (wf_u64 w0).2⟩
/-- entries that came in. -/
structure InE (w : World) (a : Option Addr) (cap : Nat) (es : List Ent) : Prop where
  ents : Ents w a es
  nil0 : a = none → cap = 0
  len : es.length ≤ cap
  capm : cap ≤ maxLen
  wf : ∀ e ∈ es, wfH e
theorem ents_of {w : World} {cs : List Value} (h : pSlice 4 pEnt w cs) : ∃ a len cap, ∃ l : List Ent, cs = [.slice a len cap] ∧ l.length = len ∧ InE w a cap l := by
  obtain ⟨a, len, cap, l, hcs, hl, hlc, hcm, hn, he, hk⟩ := list_of_slice encE wfH (ent_of w) h
  refine ⟨a, len, cap, l, hcs, hl, fun i hi => ?_, hn, by omega, hcm, hk⟩
  obtain ⟨b, off, ha, hb, hc⟩ := he i hi
  refine ⟨b, off, ha, ?_⟩
  have h0 := hc 0 (by omega)
  have h1 := hc 1 (by omega)
  have h2 := hc 2 (by omega)
  have h3 := hc 3 (by omega)
  exact ⟨h0, h1, h2, h3⟩
/-- bytes that came in. -/
structure InB (w : World) (a : Option Addr) (cap : Nat) (l : List Int) : Prop where
  cells : ∀ i, i < l.length → ∃ b off, a = some ⟨b, off, none⟩ ∧ w.cell? ⟨b, off + i, none⟩ = some (.int .u8 (l.getD i 0))
  len : l.length ≤ cap
  capm : cap ≤ maxLen
  by8 : ∀ i, 0 ≤ l.getD i 0 ∧ l.getD i 0 ≤ 255
theorem bytes_of {w : World} {cs : List Value} (h : pSlice 1 (pInt .u8) w cs) : ∃ a len cap, ∃ l : List Int, cs = [.slice a len cap] ∧ l.length = len ∧ InB w a cap l := by
  obtain ⟨a, len, cap, xs, h1, h2, h3, h4, -, h6, h7, -⟩ := ints_of_slice h
  refine ⟨a, len, cap, xs, h1, h2, h6, by omega, h4, fun i => ?_⟩
  by_cases hi : i < xs.length
  · simp only [List.getD, List.getElem?_eq_getElem hi, Option.getD_some]
    exact wf_u8 (h7 _ (List.getElem_mem hi))
  · simp [List.getD, List.getElem?_eq_none (Nat.not_lt.1 hi)]
end Go.Proofs.Ytcleaamjfjnkkaa
