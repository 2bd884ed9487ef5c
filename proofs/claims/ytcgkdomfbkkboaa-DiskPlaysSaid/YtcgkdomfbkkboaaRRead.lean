/- The reference is read, and flushed. -/
import Derived.Test.YtcgkdomfbkkboaaRWrite
namespace Go.Proofs.Ytcgkdomfbkkboaa
open Go.RowKit Go.Joins Go.ChangeMaps

set_option maxHeartbeats 2000000 in
set_option maxRecDepth 100000 in
theorem rread_any {w : World} {base q : Nat} {bv nv mv : Value} {s : St} (i : Int) (h : RD w base q bv nv mv s) (hg : Good s) : Calls Try.prog 47 #[.pointer (some ⟨q, 0, none⟩), .int .i64 i] w (RetSI (readR s i).1 (readR s i).2 w) := by
  obtain ⟨⟨g0, -, -, g3, -, -, -, g7⟩, -⟩ := h.cells
  simp only [St.fl] at g0 g7
  unfold readR
  by_cases ho : s.off = true
  · rw [if_pos ho]
    rw [ho] at g7
    simp only [Bool.not_true] at g7
    clear h hg g0 g3
    go_enter Try.func47, Try.ntmps47
    go_wp2
    refine bodyPost_ret (results_tmp2 rfl _ _ _) rfl ?_
    exact ⟨rfl, Below.refl _ _⟩
  · rw [if_neg ho]
    have ho2 : s.off = false := by simpa using ho
    rw [ho2] at g7
    simp only [Bool.not_false] at g7
    clear ho
    by_cases hi : 0 ≤ i ∧ i < s.len
    · obtain ⟨n, rfl⟩ : ∃ n : Nat, i = n := ⟨i.toNat, by omega⟩
      have hi1 := hi.2
      rw [if_neg (fun c => c hi)]
      have hin : n < (rowOf s.now s.len).length := by rw [rowOf_length]; omega
      have hll : (n : Int) < ((rowOf s.now s.len).length : Int) := by omega
      obtain ⟨g, cap, rfl, hc, hf⟩ := ownS_cell h.on hin
      rw [rowOf_get _ hi1] at hc
      cases hx : s.now n with
      | some x =>
        rw [hx] at hc
        simp only [Option.getD_some] at hc ⊢
        have hxe : (ByteArray.toList x).isEmpty = false := by rw [emptyB]; have := (hg.now _ x hx).2.2; simp [this]
        clear hx h hg hin hf ho2
        generalize (rowOf s.now s.len).length = m at *
        go_enter Try.func47, Try.ntmps47
        go_wp2
        refine bodyPost_ret (results_tmp2 rfl _ _ _) rfl ?_
        exact ⟨rfl, Below.refl _ _⟩
      | none =>
        rw [hx] at hc
        simp only [Option.getD_none] at hc ⊢
        have hmk := make32 0 w
        have hcv := conv32 0 32 (by omega) (w.alloc (.cells (fillA 0 0) 5)) w.heap.size (by rw [heap_alloc_new]; rfl)
        rw [show strOfNums (List.replicate 32 0) = zeros from rfl] at hcv
        have hB := Lib.hid (bel1 w (.cells (fillA 0 0) 5))
        generalize zeros = Z at *
        clear hx h hg hin hf ho2
        generalize (rowOf s.now s.len).length = m at *
        go_enter Try.func47, Try.ntmps47
        go_wp2
        refine bodyPost_ret (results_tmp2 rfl _ _ _) rfl ?_
        exact ⟨rfl, hB.out⟩
    · rw [if_pos hi]
      clear h hg g3 ho2
      by_cases h0 : i < 0
      · clear hi
        go_enter Try.func47, Try.ntmps47
        go_wp2
        refine bodyPost_ret (results_tmp2 rfl _ _ _) rfl ?_
        exact ⟨rfl, Below.refl _ _⟩
      · have h1 : s.len ≤ i := by omega
        have h2 : 0 ≤ i := by omega
        clear hi h0
        go_enter Try.func47, Try.ntmps47
        go_wp2
        refine bodyPost_ret (results_tmp2 rfl _ _ _) rfl ?_
        exact ⟨rfl, Below.refl _ _⟩
end Go.Proofs.Ytcgkdomfbkkboaa
