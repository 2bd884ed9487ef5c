/- Images that came in, opened. -/
import Derived.Test.YtbpbbggbjnjocaaOpen
import Derived.Test.YtbpbbggbjnjocaaLaws
import Derived.SizedLaws
namespace Go.Proofs.Ytbpbbggbjnjocaa
open Go.RowKit
theorem opensInts : Opens Try.prog 23 (pSlice 1 (pInt .i64)) := opens_slice Try.underlying23 (by kernel_rfl) (by decide) (opens_int Try.underlying3)
theorem opensImgs : Opens Try.prog 22 (pSlice 1 (pSlice 1 (pInt .i64))) := opens_slice Try.underlying22 (by kernel_rfl) (by decide) opensInts

theorem imgs_of {w : World} {cs : List Value} (h : pSlice 1 (pSlice 1 (pInt .i64)) w cs) : ∃ a len cap, ∃ ls : List (List Int), cs = [.slice a len cap] ∧ ls.length = len ∧ Imgs w a ls ∧ ls.length ≤ maxLen ∧ ∀ i, (ls.getD i []).length ≤ maxLen := by
  obtain ⟨a, len, cap, l, hcs, hl, hlc, hcm, _, he, hk⟩ := list_of_slice (α := Option Addr × Nat × List Int) (fun x => [.slice x.1 x.2.2.length x.2.1]) (fun x => Row w x.1 x.2.2 ∧ x.2.2.length ≤ maxLen) (fun es hp => by
    obtain ⟨a, len, cap, xs, rfl, h1, h2, h3, _, h5, _, _⟩ := ints_of_slice hp
    exact ⟨(a, cap, xs), by rw [← h1], h5, by show xs.length ≤ maxLen; omega⟩) h
  refine ⟨a, len, cap, l.map (·.2.2), hcs, by simp [hl], fun i hi => ?_, by rw [List.length_map]; omega, fun i => ?_⟩
  · have hi' : i < l.length := by simpa using hi
    obtain ⟨b, off, ha, _, hc⟩ := he i hi'
    have h0 := hc 0 (by omega)
    have hm : (l.map (·.2.2)).getD i [] = (l.getD i default).2.2 := by simp [hi']
    rw [hm]
    refine ⟨b, off, _, (l.getD i default).2.1, ha, ?_, (hk (l.getD i default) (by simp [hi'])).1⟩
    simpa using h0
  · by_cases hi' : i < l.length
    · have hm : (l.map (·.2.2)).getD i [] = (l.getD i default).2.2 := by simp [hi']
      rw [hm]
      exact (hk (l.getD i default) (by simp [hi'])).2
    · simp [hi']

theorem bytes3 : Try.prog.bytesOf 3 = 8 := by kernel_rfl
theorem bytes23 : Try.prog.bytesOf 23 = 24 := by kernel_rfl
/-- what a slice that came in may take at most. -/
theorem sized_len {H : Type} {enc : TypeId × Value → H} {P : Program} {w : World} {base : Nat} {spare : Nat → Bool} {held : Bool} {t e : TypeId} {a : Option Addr} {len cap n : Nat} {d : DataW H} {ps : List MemPlace} {ts : List TypeId} {ds : List (DataW H)} {j : Nat}
    (hd : DataW.Trod enc P w base spare held t (.slice a len cap) d ps) (hu : P.underlying t = some (.slice e)) (hsz : (DataW.weightsEach P ts ds).all (· ≤ reachBytes) = true) (ht : ts[j]? = some t) (hdj : ds[j]? = some d) (hb : P.bytesOf e = n) :
    len * n ≤ 140737488351232 := by
  obtain ⟨fuel, hf⟩ := hd
  rcases DataW.trod_slice hu hf with ⟨hv, _⟩ | ⟨a', len', cap', elems, rest, m, _, hv, hx, _, _, _, hl, _, _, _⟩
  · simp [Value.cells] at hv
    obtain ⟨_, rfl, _⟩ := hv
    omega
  · simp [Value.cells] at hv
    obtain ⟨_, rfl, _⟩ := hv
    simp only [Prod.mk.injEq] at hx
    obtain ⟨rfl, _⟩ := hx
    have h := sized_slice hsz ht hdj hu
    rw [hb] at h
    simp only [List.length_map, reachBytes] at h
    refine Nat.le_trans (Nat.mul_le_mul_right n ?_) h
    omega
end Go.Proofs.Ytbpbbggbjnjocaa
