/- What is written: one letter, 32 times. -/
import Derived.Test.YtcgkdomfbkkboaaCnt
import Derived.Laws.BytesArg
import Derived.Laws.MakeOwn
namespace Go.Proofs.Ytcgkdomfbkkboaa
open Go.RowKit Go.Joins Go.ChangeMaps

def dataN (c : Int) : Nat := if 250 < c then (c % 31).toNat else 32
def dataB (c : Int) : BA := strOfNums (List.replicate (dataN c) c)
theorem dataB_size (c : Int) : (dataB c).size = dataN c := by rw [dataB, strOfNums_size]; simp
theorem dataN_le (c : Int) : dataN c ≤ 32 := by unfold dataN; split <;> omega
theorem zeros_data : zeros = dataB 0 := rfl
theorem info5 : (Try.prog.info? 5).map (fun i => (i.zero, i.size, i.bytes)) = some (some (.int .u8 0), 1, 1) := by kernel_rfl
def fillA (c : Int) (j : Nat) : Array Value := ((List.range 32).map fun i => if i < j then Value.int .u8 c else .int .u8 0).toArray
theorem fill_zero (c : Int) : madeCells (Value.int IntKind.u8 0).cells 32 = fillA c 0 := by
  apply Array.ext
  · simp [fillA, size_madeCells]
  · intro i h1 h2
    simp [fillA, madeCells, Value.cells, Nat.mod_one]
theorem fill_get {j : Nat} (c : Int) (h : j < 32) : (fillA c j)[j]? = some (.int .u8 0) := by simp [fillA, h]
theorem fill_set {j : Nat} (c : Int) (h : j < 32) : (fillA c j).setIfInBounds j (.int .u8 c) = fillA c (j + 1) := by
  apply Array.ext_getElem?
  intro i
  rw [Array.getElem?_setIfInBounds]
  by_cases hij : j = i
  · subst hij; simp [fillA, h]
  · rw [if_neg hij]
    by_cases hi : i < 32
    · have : (i < j) = (i < j + 1) := by simp only [eq_iff_iff]; omega
      simp [fillA, hi, this]
    · simp [fillA, hi]
theorem fill_cell {i : Nat} (c : Int) (h : i < 32) : (fillA c 32)[i]? = some (.int .u8 c) := by simp [fillA, h]
theorem make32 (c : Int) (W : World) : (Instr.makeSlice 23 (.int .i64 32) (.int .i64 32)).run Try.prog W = .ok (.slice (some ⟨W.heap.size, 0, none⟩) 32 32) (W.alloc (.cells (fillA c 0) 5)) := by
  obtain ⟨i0, hi, hz0, hz1, hz2⟩ := info_parts info5
  have h := run_make (P := Try.prog) W 23 5 i0 (.int .u8 0) Try.underlying23 hi hz0 .i64 .i64 32 32 (by omega) (by omega) (by rw [hz2]; omega) (by omega)
  rw [hz1, Nat.mul_one, show (32 : Int).toNat = 32 from rfl, fill_zero c] at h
  exact h
/-- a string of what lies there. -/
theorem conv32 (c : Int) (n : Nat) (hn : n ≤ 32) (W : World) (b : Nat) (hh : W.heap[b]? = some (.cells (fillA c 32) 5 (0, 0))) : (convert 23 9 (.slice (some ⟨b, 0, none⟩) n 32)).run Try.prog W = .ok (.string (strOfNums (List.replicate n c))) W :=
  run_convert_bytes_arg (P := Try.prog) W 23 5 Try.underlying23 (by kernel_rfl) b 0 n 32 (List.replicate n c) (by simp) (fun i hi => by
    rw [Nat.zero_add, (cell_of hh i (fill_cell c (by omega))).1]
    simp [List.getD_eq_getElem?_getD, hi]) 9 (by kernel_rfl)
set_option maxHeartbeats 1000000 in
set_option maxRecDepth 100000 in
theorem data_any (c : Int) (w : World) (h0 : 0 ≤ c) (h1 : c ≤ 255) : Calls Try.prog 12 #[.int .u8 c] w (RetV (.string (dataB c)) w) := by
  have hmk := make32 c w
  have hA := Lib.hid (heap_alloc_new w (.cells (fillA c 0) 5))
  have hB := Lib.hid (bel1 w (.cells (fillA c 0) 5))
  go_enter Try.func12, Try.ntmps12
  go_wp2
  clear hmk
  go_loopg [4] 32 (fun gk v4 wr => ∃ j : Nat, j + gk = 32 ∧ v4 = .int .i64 (j : Int) ∧ wr.heap[w.heap.size]? = some (.cells (fillA c j) 5 (0, 0)) ∧ Below w.heap.size w wr)
  case atStart => exact ⟨0, by omega, rfl, hA.out, hB.out⟩
  case round =>
    obtain ⟨j, hjm, rfl, hh, hb⟩ := hrel
    have HH := Lib.hid hh
    have HB := Lib.hid hb
    clear hh hb
    by_cases hlt : j < 32
    · have hlj : (j : Int) < 32 := by omega
      have c1 := (cell_of HH.out j (fill_get c hlt)).1
      have f1 := (cell_of HH.out j (fill_get c hlt)).2
      have hst := Lib.hid (fill_set c hlt)
      go_wp2
      go_roundg (gk - 1)
      case measure => omega
      case rel => exact ⟨j + 1, by omega, by simp, by rw [setCell_blk HH.out, hst.out], HB.out.setCell (p := ⟨w.heap.size, j, none⟩) (Nat.le_refl _) _⟩
    · have hge : (32 : Int) ≤ (j : Int) := by omega
      have hjm2 : j = 32 := by omega
      subst hjm2
      by_cases hc : 250 < c
      · have hm0 : 0 ≤ c % 31 := by omega
        have hm1 : c % 31 ≤ 30 := by omega
        have hcv := conv32 c (c % 31).toNat (by omega) wr _ HH.out
        have hD : dataB c = strOfNums (List.replicate (c % 31).toNat c) := by
          unfold dataB dataN; rw [if_pos hc]
        rw [← hD] at hcv
        clear hD
        go_wp2
        go_ret
        exact retV rfl HB.out
      · have hc2 : c ≤ 250 := by omega
        have hD : dataB c = strOfNums (List.replicate 32 c) := by
          unfold dataB dataN; rw [if_neg hc]
        have hcv := conv32 c 32 (by omega) wr _ HH.out
        rw [← hD] at hcv
        clear hD hc
        go_wp2
        go_ret
        exact retV rfl HB.out
theorem data_len {c : Int} (h : c ≤ 250) : (dataB c).size = 32 := by rw [dataB_size, dataN, if_neg (by omega)]
end Go.Proofs.Ytcgkdomfbkkboaa
