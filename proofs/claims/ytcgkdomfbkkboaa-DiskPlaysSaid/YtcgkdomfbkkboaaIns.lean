/- What came in, opened. -/
import Derived.Test.YtcgkdomfbkkboaaOpen
import Derived.Test.YtcgkdomfbkkboaaWakesP
namespace Go.Proofs.Ytcgkdomfbkkboaa
open Go.RowKit
def encP (x : Int × Int) : List Value := [.int .u8 x.1, .int .u8 x.2]
theorem EP : Enc encP 2 := ⟨fun _ => rfl, fun x u hu => by simp [encP] at hu; rcases hu with rfl | rfl <;> rfl, by omega⟩
def ByP (l : List (Int × Int)) : Prop := ∀ x ∈ l, 0 ≤ x.1 ∧ x.1 ≤ 255 ∧ 0 ≤ x.2 ∧ x.2 ≤ 255
theorem wf8 {a : Int} (h : (Lit.int .u8 a).wf = true) : 0 ≤ a ∧ a ≤ 255 := by
  simp [Lit.wf, IntKind.min, IntKind.max, IntKind.signed, IntKind.bits] at h; omega
theorem opensBytes : Opens Try.prog 23 (pSlice 1 (pInt .u8)) := opens_slice Try.underlying23 (by kernel_rfl) (by decide) (opens_int Try.underlying5)
theorem opensInts : Opens Try.prog 22 (pSlice 1 (pInt .i64)) := opens_slice Try.underlying22 (by kernel_rfl) (by decide) (opens_int Try.underlying3)
theorem opensBools : Opens Try.prog 35 (pSlice 1 pBool) := opens_slice Try.underlying35 (by kernel_rfl) (by decide) (opens_bool Try.underlying4)
def pPut : CellsP := pFields 2 [(0, 1, pInt .u8), (1, 1, pInt .u8)]
theorem opensPut : Opens Try.prog 38 pPut := by
  refine opens_struct Try.underlying38 (by kernel_rfl) ?_
  intro q hq
  simp only [List.mem_cons, List.not_mem_nil, or_false] at hq
  rcases hq with rfl | rfl
  · exact ⟨0, _, rfl, rfl, by kernel_rfl, opens_int Try.underlying5⟩
  · exact ⟨1, _, rfl, rfl, by kernel_rfl, opens_int Try.underlying5⟩
theorem opensPuts : Opens Try.prog 34 (pSlice 2 pPut) := opens_slice Try.underlying34 (by kernel_rfl) (by decide) opensPut
theorem lst_of {α : Type} [Inhabited α] {enc : α → List Value} {size : Nat} (E : Enc enc size) {ok : α → Prop} {p : CellsP} {w : World} {cs : List Value} (hp : ∀ es, p w es → ∃ x : α, es = enc x ∧ ok x) (h : pSlice size p w cs) :
    ∃ a len cap, ∃ l : List α, cs = [.slice a len cap] ∧ l.length = len ∧ len ≤ maxLen ∧ Lst enc size w a l ∧ ∀ x ∈ l, ok x := by
  obtain ⟨a, len, cap, l, hcs, hl, hlc, hcm, hn, he, hk⟩ := list_of_slice enc ok hp h
  refine ⟨a, len, cap, l, hcs, hl, Nat.le_trans hlc hcm, fun i hi => ?_, hk⟩
  obtain ⟨b, off, ha, hb, hc⟩ := he i hi
  refine ⟨b, off, ha, fun j u hu => ?_⟩
  have hj : j < size := by have := (List.getElem?_eq_some_iff.1 hu).1; rw [E.len] at this; exact this
  have := hc j hj
  rw [hu] at this
  rw [Nat.add_assoc]
  exact this
theorem lst_of2 {α : Type} [Inhabited α] {enc : α → List Value} {size : Nat} (E : Enc enc size) {ok : α → Prop} {p : CellsP} {w : World} {cs : List Value} (hp : ∀ es, p w es → ∃ x : α, es = enc x ∧ ok x) (h : pSlice size p w cs) :
    ∃ a len cap, ∃ l : List α, cs = [.slice a len cap] ∧ l.length = len ∧ len ≤ cap ∧ Lst enc size w a l ∧ ∀ x ∈ l, ok x := by
  have h' := h
  obtain ⟨a, len, cap, l, h1, h2, h3, h4, h5⟩ := lst_of E hp h
  obtain ⟨a2, len2, cap2, hcs, hlc, -⟩ := h'
  rw [h1] at hcs
  simp at hcs
  obtain ⟨rfl, rfl, rfl⟩ := hcs
  exact ⟨a, len, cap, l, h1, h2, hlc, h4, h5⟩
theorem byte_of (w : World) (es : List Value) (h : pInt .u8 w es) : ∃ x : Int, es = encU x ∧ 0 ≤ x ∧ x ≤ 255 := by
  obtain ⟨n, rfl, hw⟩ := h
  exact ⟨n, rfl, wf8 hw⟩
theorem int_of (w : World) (es : List Value) (h : pInt .i64 w es) : ∃ x : Int, es = encI x ∧ (Lit.int .i64 x).wf = true := by
  obtain ⟨n, rfl, hw⟩ := h
  exact ⟨n, rfl, hw⟩
theorem bool_of (w : World) (es : List Value) (h : pBool w es) : ∃ x : Bool, es = encK x ∧ True := by
  obtain ⟨n, rfl⟩ := h
  exact ⟨n, rfl, trivial⟩
theorem put_of (w : World) (es : List Value) (h : pPut w es) : ∃ x : Int × Int, es = encP x ∧ 0 ≤ x.1 ∧ x.1 ≤ 255 ∧ 0 ≤ x.2 ∧ x.2 ≤ 255 := by
  obtain ⟨hl, hf⟩ := h
  obtain ⟨c0, c1, rfl⟩ := list2 hl
  obtain ⟨n0, h0, w0⟩ := hf (0, 1, pInt .u8) (by simp)
  obtain ⟨n1, h1, w1⟩ := hf (1, 1, pInt .u8) (by simp)
  simp at h0 h1
  subst h0 h1
  have := wf8 w0
  have := wf8 w1
  exact ⟨(n0, n1), rfl, by simp only; omega⟩
/-- a list of bools, whatever its slice. -/
theorem bools_of {w : World} {cs : List Value} (h : pSlice 1 pBool w cs) : ∃ a len cap, ∃ l : List Bool, cs = [.slice a len cap] ∧ l.length = len ∧ Lst encK 1 w a l := by
  obtain ⟨a, len, cap, l, h1, h2, -, h3, -⟩ := lst_of EK (bool_of w) h
  exact ⟨a, len, cap, l, h1, h2, h3⟩
end Go.Proofs.Ytcgkdomfbkkboaa
