/- text: so many bytes, that tell it from others. -/
import Derived.Test.YtkojjnkohnokoaaLeaf
namespace Go.Proofs.Ytkojjnkohnokoaa
open Go.RowKit Go.Joins

def clN (n : Int) : Nat := (max 0 (min n 9000)).toNat
def textL (m : Nat) (k : Int) : List Int := (List.range m).map fun (i : Nat) => IntKind.u8.wrap (k + (i : Int))
def textB (n k : Int) : BA := strOfNums (textL (clN n) k)
theorem textB_size (n k : Int) : (textB n k).size = clN n := by rw [textB, strOfNums_size]; simp [textL]
theorem info5 : (Try.prog.info? 5).map (fun i => (i.zero, i.size, i.bytes)) = some (some (.int .u8 0), 1, 1) := by kernel_rfl
/-- the first j of m bytes are written. -/
def fillA (m : Nat) (k : Int) (j : Nat) : Array Value := ((List.range m).map fun i => if i < j then Value.int .u8 (IntKind.u8.wrap (k + i)) else .int .u8 0).toArray
theorem fill_zero (m : Nat) (k : Int) : madeCells (Value.int IntKind.u8 0).cells m = fillA m k 0 := by
  apply Array.ext
  · simp [fillA, size_madeCells]
  · intro i h1 h2
    simp [fillA, madeCells, Value.cells, Nat.mod_one]
theorem fill_get {m j : Nat} (k : Int) (h : j < m) : (fillA m k j)[j]? = some (.int .u8 0) := by simp [fillA, h]
theorem fill_set {m j : Nat} (k : Int) (h : j < m) : (fillA m k j).setIfInBounds j (.int .u8 (IntKind.u8.wrap (k + j))) = fillA m k (j + 1) := by
  apply Array.ext_getElem?
  intro i
  rw [Array.getElem?_setIfInBounds]
  by_cases hij : j = i
  · subst hij; simp [fillA, h]
  · rw [if_neg hij]
    by_cases hi : i < m
    · have : (i < j) = (i < j + 1) := by simp only [eq_iff_iff]; omega
      simp [fillA, hi, this]
    · simp [fillA, hi]
theorem fill_cell {m i : Nat} (k : Int) (h : i < m) : (fillA m k m)[i]? = some (.int .u8 (IntKind.u8.wrap (k + i))) := by simp [fillA, h]
def RetV (v : Value) (w : World) (e : Ending) (w' : World) : Prop := e = .returned v ∧ Below w.heap.size w w'
theorem retV {v u : Value} {w w' : World} (h : u = v) (hb : Below w.heap.size w w') : RetV v w (.returned u) w' := ⟨by rw [h], hb⟩
set_option maxHeartbeats 1000000 in
set_option maxRecDepth 100000 in
theorem text_m (n k : Int) (m : Nat) (w : World) (hm : m ≤ 9000) (hn : n ≤ 0 ∧ m = 0 ∨ (0 < n ∧ n ≤ 9000 ∧ n = m) ∨ (9000 < n ∧ m = 9000)) (hk0 : 0 ≤ k) (hk : k ≤ 1000000) :
    Calls Try.prog 12 #[.int .i64 n, .int .i64 k] w (RetV (.string (strOfNums (textL m k))) w) := by
  obtain ⟨i0, hi, hz0, hz1, hz2⟩ := info_parts info5
  have hmk : ∀ W : World, (Instr.makeSlice 62 (.int .i64 (m : Int)) (.int .i64 (m : Int))).run Try.prog W = .ok (.slice (some ⟨W.heap.size, 0, none⟩) m m) (W.alloc (.cells (fillA m k 0) 5)) := fun W => by
    have h := run_make (P := Try.prog) W 62 5 i0 (.int .u8 0) Try.underlying62 hi hz0 .i64 .i64 (m : Int) (m : Int) (by omega) (by omega) (by rw [hz2]; omega) (by omega)
    rw [hz1, Nat.mul_one, Int.toNat_natCast, fill_zero m k] at h
    exact h
  have hm9 : (m : Int) ≤ 9000 := by omega
  have hA := Lib.hid (heap_alloc_new w (.cells (fillA m k 0) 5))
  have hB := Lib.hid (bel1 w (.cells (fillA m k 0) 5))
  have hcut : n ≤ 0 ∧ m = 0 ∨ (0 < n ∧ n ≤ 9000 ∧ n = m) ∨ (9000 < n ∧ m = 9000) := hn
  clear hn
  go_enter Try.func12, Try.ntmps12
  go_upto_region 1 with fail
  go_cut [5] from 7 to 10 (fun v5 wx => v5 = .slice (some ⟨w.heap.size, 0, none⟩) m m ∧ wx = w.alloc (.cells (fillA m k 0) 5))
  case first =>
    rcases hcut with ⟨h1, rfl⟩ | ⟨h0, h1, rfl⟩ | ⟨h1, rfl⟩
    · have h2 : n < 9000 := by omega
      rw [show ((0 : Nat) : Int) = 0 from rfl] at hmk
      go_wp2
      go_meet
      exact ⟨rfl, rfl⟩
    · by_cases h2 : (m : Int) = 9000
      · have h3 : ¬ (m : Int) < 9000 := by omega
        rw [h2] at hmk
        have hm2 : m = 9000 := by omega
        subst hm2
        rw [show ((9000 : Nat) : Int) = 9000 from rfl] at *
        go_wp2
        go_meet
        exact ⟨rfl, rfl⟩
      · have h3 : (m : Int) < 9000 := by omega
        go_wp2
        go_meet
        exact ⟨rfl, rfl⟩
    · rw [show ((9000 : Nat) : Int) = 9000 from rfl] at hmk
      go_wp2
      go_meet
      exact ⟨rfl, rfl⟩
  case rest =>
    obtain ⟨rfl, rfl⟩ := hcut
    clear hcut hmk hi hz0 hz1 hz2
    go_wp2
    go_loopg [6] m (fun gk v6 wr => ∃ j : Nat, j + gk = m ∧ v6 = .int .i64 (j : Int) ∧ wr.heap[w.heap.size]? = some (.cells (fillA m k j) 5 (0, 0)) ∧ Below w.heap.size w wr)
    case atStart => exact ⟨0, by omega, rfl, hA.out, hB.out⟩
    case round =>
      obtain ⟨j, hjm, rfl, hh, hb⟩ := hrel
      have HH := Lib.hid hh
      have HB := Lib.hid hb
      clear hh hb
      by_cases hlt : j < m
      · have hlj : (j : Int) < (m : Int) := by omega
        have c1 := cell_of HH.out (fill_get k hlt)
        have f1 : wr.frozen? ⟨w.heap.size, j, none⟩ = false := frozen_of HH.out
        have hst := Lib.hid (show (fillA m k j).setIfInBounds j (.int .u8 ((k + (j : Int)) % 256)) = fillA m k (j + 1) by rw [← fill_set k hlt]; simp [IntKind.wrap, IntKind.signed, IntKind.bits])
        have b1 : (k + j : Int) ≤ 2000000 := by omega
        have b2 : (0 : Int) ≤ (k + j : Int) := by omega
        go_wp2
        go_roundg (gk - 1)
        case measure => omega
        case rel => exact ⟨j + 1, by omega, by simp, by rw [set_of HH.out, hst.out], HB.out.setCell (p := ⟨w.heap.size, j, none⟩) (Nat.le_refl _) _⟩
      · have hge : (m : Int) ≤ (j : Int) := by omega
        have hjm2 : j = m := by omega
        subst hjm2
        have hcv := run_convert_bytes_arg (P := Try.prog) wr 62 5 Try.underlying62 (by kernel_rfl) w.heap.size 0 j j (textL j k) (by simp [textL]) (fun i hi => by
          rw [Nat.zero_add, cell_of HH.out (fill_cell k hi)]
          simp [textL, List.getD_eq_getElem?_getD, hi]) 9 (by kernel_rfl)
        go_wp2
        go_ret
        exact retV rfl HB.out
theorem text_any (n k : Int) (w : World) (hk0 : 0 ≤ k) (hk : k ≤ 1000000) : Calls Try.prog 12 #[.int .i64 n, .int .i64 k] w (RetV (.string (textB n k)) w) :=
  text_m n k (clN n) w (by unfold clN; omega) (by unfold clN; omega) hk0 hk
end Go.Proofs.Ytkojjnkohnokoaa
