/- Sizes that came in, opened. -/
import Derived.Test.YtkojjnkohnokoaaOpen
import Derived.Test.YtkojjnkohnokoaaFair
namespace Go.Proofs.Ytkojjnkohnokoaa
open Go.RowKit
theorem opens16 : Opens Try.prog 47 (pSlice 1 (pInt .u16)) := opens_slice Try.underlying47 (by kernel_rfl) (by decide) (opens_int Try.underlying48)
theorem wf16 {n : Int} (h : (Lit.int .u16 n).wf = true) : 0 ≤ n ∧ n ≤ 65535 := by
  simp only [Lit.wf, Bool.and_eq_true, decide_eq_true_eq] at h
  have hmin : IntKind.u16.min = 0 := rfl
  have hmax : IntKind.u16.max = 65535 := rfl
  rw [hmin, hmax] at h
  exact h
theorem wf8 {n : Int} (h : (Lit.int .u8 n).wf = true) : 0 ≤ n ∧ n ≤ 255 := by
  simp only [Lit.wf, Bool.and_eq_true, decide_eq_true_eq] at h
  have hmin : IntKind.u8.min = 0 := rfl
  have hmax : IntKind.u8.max = 255 := rfl
  rw [hmin, hmax] at h
  exact h
theorem u16_of (w : World) (es : List Value) (h : pInt .u16 w es) : ∃ x : Int, es = [.int .u16 x] ∧ (0 ≤ x ∧ x ≤ 65535) := by
  obtain ⟨n, rfl, hw⟩ := h
  exact ⟨n, rfl, wf16 hw⟩
theorem sizes_of {w : World} {cs : List Value} (h : pSlice 1 (pInt .u16) w cs) : ∃ a len cap, ∃ l : List Int, cs = [.slice a len cap] ∧ l.length = len ∧ len ≤ cap ∧ cap ≤ maxLen ∧ Row16 w a l := by
  obtain ⟨a, len, cap, l, hcs, hl, hlc, hcm, hn, he, hk⟩ := list_of_slice (fun x : Int => [Value.int .u16 x]) (fun x => 0 ≤ x ∧ x ≤ 65535) (u16_of w) h
  refine ⟨a, len, cap, l, hcs, hl, hlc, hcm, fun i hi => ?_⟩
  obtain ⟨b, off, ha, hb, hc⟩ := he i hi
  have h0 := hc 0 (by omega)
  have hd : l.getD i default = l.getD i 0 := rfl
  rw [hd] at h0
  have hm : l.getD i 0 ∈ l := by rw [List.getD_eq_getElem?_getD, List.getElem?_eq_getElem hi]; exact List.getElem_mem hi
  have := hk _ hm
  exact ⟨b, off, ha, by simpa using h0, this.1, this.2⟩
end Go.Proofs.Ytkojjnkohnokoaa
