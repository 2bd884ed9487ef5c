/- Frames and acts that came in, opened. -/
import Derived.Test.YtmiaifbpepfbnaaOpen
import Derived.Test.YtmiaifbpepfbnaaPlays
namespace Go.Proofs.Ytmiaifbpepfbnaa
open Go.RowKit
def pFr : CellsP := pFields 3 [(0, 1, pInt .i64), (1, 1, pInt .i64), (2, 1, pStr)]
theorem opensFr : Opens Try.prog 31 pFr := by
  refine opens_struct Try.underlying31 (by kernel_rfl) ?_
  intro q hq
  simp only [List.mem_cons, List.not_mem_nil, or_false] at hq
  rcases hq with rfl | rfl | rfl
  · exact ⟨0, _, rfl, rfl, by kernel_rfl, opens_int Try.underlying3⟩
  · exact ⟨1, _, rfl, rfl, by kernel_rfl, opens_int Try.underlying3⟩
  · exact ⟨2, _, rfl, rfl, by kernel_rfl, opens_str Try.underlying9⟩
theorem opensFrs : Opens Try.prog 25 (pSlice 3 pFr) := opens_slice Try.underlying25 (by kernel_rfl) (by decide) opensFr
def pAc : CellsP := pFields 4 [(0, 1, pInt .i64), (1, 1, pInt .i64), (2, 1, pInt .i64), (3, 1, pSlice 3 pFr)]
theorem opensAc : Opens Try.prog 43 pAc := by
  refine opens_struct Try.underlying43 (by kernel_rfl) ?_
  intro q hq
  simp only [List.mem_cons, List.not_mem_nil, or_false] at hq
  rcases hq with rfl | rfl | rfl | rfl
  · exact ⟨0, _, rfl, rfl, by kernel_rfl, opens_int Try.underlying3⟩
  · exact ⟨1, _, rfl, rfl, by kernel_rfl, opens_int Try.underlying3⟩
  · exact ⟨2, _, rfl, rfl, by kernel_rfl, opens_int Try.underlying3⟩
  · exact ⟨3, _, rfl, rfl, by kernel_rfl, opensFrs⟩
theorem opensAcs : Opens Try.prog 41 (pSlice 4 pAc) := opens_slice Try.underlying41 (by kernel_rfl) (by decide) opensAc
theorem fr_of (w : World) (es : List Value) (h : pFr w es) : ∃ x : Fr, es = encF x ∧ True := by
  obtain ⟨hl, hf⟩ := h
  obtain ⟨c0, c1, c2, rfl⟩ := list3 hl
  obtain ⟨n0, h0, -⟩ := hf (0, 1, pInt .i64) (by simp)
  obtain ⟨n1, h1, -⟩ := hf (1, 1, pInt .i64) (by simp)
  obtain ⟨s, h2, -⟩ := hf (2, 1, pStr) (by simp)
  simp at h0 h1 h2
  subst h0 h1 h2
  exact ⟨(n0, n1, s), rfl, trivial⟩
theorem frs_of {w : World} {cs : List Value} (h : pSlice 3 pFr w cs) : ∃ a len cap, ∃ l : List Fr, cs = [.slice a len cap] ∧ l.length = len ∧ len ≤ maxLen ∧ Lst encF 3 w a l := by
  obtain ⟨a, len, cap, l, hcs, hl, hlc, hcm, hn, he, hk⟩ := list_of_slice encF (fun _ => True) (fr_of w) h
  refine ⟨a, len, cap, l, hcs, hl, Nat.le_trans hlc hcm, fun i hi => ?_⟩
  obtain ⟨b, off, ha, hb, hc⟩ := he i hi
  refine ⟨b, off, ha, fun j u hu => ?_⟩
  have hj : j < 3 := by have := (List.getElem?_eq_some_iff.1 hu).1; simpa [encF] using this
  have := hc j hj
  rw [hu] at this
  rw [Nat.add_assoc]
  exact this
abbrev Raw := Int × Int × Int × Option Addr × Nat × List Fr
def encR (x : Raw) : List Value := [.int .i64 x.1, .int .i64 x.2.1, .int .i64 x.2.2.1, .slice x.2.2.2.1 x.2.2.2.2.2.length x.2.2.2.2.1]
theorem raw_of (w : World) (es : List Value) (h : pAc w es) : ∃ x : Raw, es = encR x ∧ Lst encF 3 w x.2.2.2.1 x.2.2.2.2.2 := by
  obtain ⟨hl, hf⟩ := h
  obtain ⟨c0, c1, c2, c3, rfl⟩ := list4 hl
  obtain ⟨n0, h0, -⟩ := hf (0, 1, pInt .i64) (by simp)
  obtain ⟨n1, h1, -⟩ := hf (1, 1, pInt .i64) (by simp)
  obtain ⟨n2, h2, -⟩ := hf (2, 1, pInt .i64) (by simp)
  obtain ⟨a, len, cap, l, h3, hl3, -, hL⟩ := frs_of (hf (3, 1, pSlice 3 pFr) (by simp))
  simp at h0 h1 h2 h3
  subst h0 h1 h2 h3 hl3
  exact ⟨(n0, n1, n2, a, cap, l), rfl, hL⟩
def rawA (x : Raw) : Ac := (x.1, x.2.1, x.2.2.1, x.2.2.2.2.2)
theorem acts_of {w : World} {cs : List Value} (h : pSlice 4 pAc w cs) : ∃ a len cap, ∃ l : List Ac, cs = [.slice a len cap] ∧ l.length = len ∧ len ≤ maxLen ∧ Acts w a l := by
  obtain ⟨a, len, cap, l, hcs, hl, hlc, hcm, hn, he, hk⟩ := list_of_slice encR (fun x => Lst encF 3 w x.2.2.2.1 x.2.2.2.2.2) (raw_of w) h
  refine ⟨a, len, cap, l.map rawA, hcs, by simpa using hl, Nat.le_trans hlc hcm, fun i hi => ?_⟩
  have hi' : i < l.length := by simpa using hi
  obtain ⟨b, off, ha, hb, hc⟩ := he i hi'
  have hg : (l.map rawA).getD i default = rawA (l.getD i default) := by simp [List.getD_eq_getElem?_getD, hi']
  have hx := hk _ (getD_mem hi')
  rw [hg]
  generalize l.getD i default = x at *
  have h0 := hc 0 (by omega)
  have h1 := hc 1 (by omega)
  have h2 := hc 2 (by omega)
  have h3 := hc 3 (by omega)
  exact ⟨b, off, _, _, ha, h0, h1, h2, h3, hx⟩
end Go.Proofs.Ytmiaifbpepfbnaa
