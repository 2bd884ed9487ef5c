/- Len of the program's: it copies all links. -/
import Derived.Test.YtkojjnkohnokoaaLeaf
namespace Go.Proofs.Ytkojjnkohnokoaa
open Go.RowKit Go.Joins
set_option linter.unusedSimpArgs false

def pre6 (n0 n1 n2 n3 n4 n5 : Nat) : Nat → Int
  | 0 => 0
  | 1 => 0 + (n0 : Int)
  | 2 => 0 + (n0 : Int) + n1
  | 3 => 0 + (n0 : Int) + n1 + n2
  | 4 => 0 + (n0 : Int) + n1 + n2 + n3
  | 5 => 0 + (n0 : Int) + n1 + n2 + n3 + n4
  | _ => 0 + (n0 : Int) + n1 + n2 + n3 + n4 + n5
set_option maxHeartbeats 1000000 in
set_option maxRecDepth 100000 in
theorem len_any (base p : Nat) (vs : Nat → Value) (s : St) (w : World) (h : Sch w base p 56 vs s) (hg : Good s) : Calls Try.prog 14 #[.pointer (some ⟨p, 0, none⟩)] w (RetI (lenS s : Int) w) := by
  obtain ⟨a0, cap0, hv0, -⟩ := (h.que 0 (by omega)).form
  have hc0 := h.cell (tabs12 s.c) (i := 0) (by omega)
  rw [hv0] at hc0
  have hd0 := h.credit_get (i := 0) (by omega)
  have gm0 : ((s.q 0).length : Int) ≤ 4 := by have := (hg 0 (by omega)).1.1; omega
  clear hv0
  obtain ⟨a1, cap1, hv1, -⟩ := (h.que 1 (by omega)).form
  have hc1 := h.cell (tabs12 s.c) (i := 1) (by omega)
  rw [hv1] at hc1
  have hd1 := h.credit_get (i := 1) (by omega)
  have gm1 : ((s.q 1).length : Int) ≤ 4 := by have := (hg 1 (by omega)).1.1; omega
  clear hv1
  obtain ⟨a2, cap2, hv2, -⟩ := (h.que 2 (by omega)).form
  have hc2 := h.cell (tabs12 s.c) (i := 2) (by omega)
  rw [hv2] at hc2
  have hd2 := h.credit_get (i := 2) (by omega)
  have gm2 : ((s.q 2).length : Int) ≤ 4 := by have := (hg 2 (by omega)).1.1; omega
  clear hv2
  obtain ⟨a3, cap3, hv3, -⟩ := (h.que 3 (by omega)).form
  have hc3 := h.cell (tabs12 s.c) (i := 3) (by omega)
  rw [hv3] at hc3
  have hd3 := h.credit_get (i := 3) (by omega)
  have gm3 : ((s.q 3).length : Int) ≤ 4 := by have := (hg 3 (by omega)).1.1; omega
  clear hv3
  obtain ⟨a4, cap4, hv4, -⟩ := (h.que 4 (by omega)).form
  have hc4 := h.cell (tabs12 s.c) (i := 4) (by omega)
  rw [hv4] at hc4
  have hd4 := h.credit_get (i := 4) (by omega)
  have gm4 : ((s.q 4).length : Int) ≤ 4 := by have := (hg 4 (by omega)).1.1; omega
  clear hv4
  obtain ⟨a5, cap5, hv5, -⟩ := (h.que 5 (by omega)).form
  have hc5 := h.cell (tabs12 s.c) (i := 5) (by omega)
  rw [hv5] at hc5
  have hd5 := h.credit_get (i := 5) (by omega)
  have gm5 : ((s.q 5).length : Int) ≤ 4 := by have := (hg 5 (by omega)).1.1; omega
  clear hv5
  simp only [Nat.zero_mul, Nat.zero_add, Nat.reduceMul, Nat.reduceAdd, Nat.one_mul] at hc0 hc1 hc2 hc3 hc4 hc5 hd0 hd1 hd2 hd3 hd4 hd5
  have hL := Lib.hid (show lenS s = (s.q 0).length + (s.q 1).length + (s.q 2).length + (s.q 3).length + (s.q 4).length + (s.q 5).length by simp only [lenS, lenTo, Nat.zero_add])
  clear h hg
  generalize (s.q 0).length = n0 at *
  generalize s.c 0 = c0 at *
  generalize (s.q 1).length = n1 at *
  generalize s.c 1 = c1 at *
  generalize (s.q 2).length = n2 at *
  generalize s.c 2 = c2 at *
  generalize (s.q 3).length = n3 at *
  generalize s.c 3 = c3 at *
  generalize (s.q 4).length = n4 at *
  generalize s.c 4 = c4 at *
  generalize (s.q 5).length = n5 at *
  generalize s.c 5 = c5 at *
  go_enter Try.func14, Try.ntmps14
  go_wp2
  go_loopg [3, 5, 12] 6 (fun gk v3 _ v12 wr => ∃ i : Nat, Below w.heap.size w wr ∧ i + gk = 6 ∧ v12 = .int .i64 (i : Int) ∧ v3 = .int .i64 (pre6 n0 n1 n2 n3 n4 n5 i))
  case atStart => exact ⟨0, Below.refl _ _, by omega, rfl, rfl⟩
  case round =>
    obtain ⟨i, hB, hik, rfl, rfl⟩ := hrel
    have HB := Lib.hid hB
    clear hB hc0 hc1 hc2 hc3 hc4 hc5 hd0 hd1 hd2 hd3 hd4 hd5
    rcases i with _ | _ | _ | _ | _ | _ | _ | i
    · have hix : ∀ W, (Instr.index 54 (.agg #[.slice a0 n0 cap0, .int .i64 c0, .slice a1 n1 cap1, .int .i64 c1, .slice a2 n2 cap2, .int .i64 c2, .slice a3 n3 cap3, .int .i64 c3, .slice a4 n4 cap4, .int .i64 c4, .slice a5 n5 cap5, .int .i64 c5]) (.int .i64 0)).run Try.prog W = .ok (.agg #[.slice a0 n0 cap0, .int .i64 c0]) W := fun W => by kernel_rfl
      have e := Lib.hid (show pre6 n0 n1 n2 n3 n4 n5 0 + n0 = pre6 n0 n1 n2 n3 n4 n5 1 from rfl)
      have g1 : (0 : Int) ≤ pre6 n0 n1 n2 n3 n4 n5 0 := by simp only [pre6]; omega
      have g2 : pre6 n0 n1 n2 n3 n4 n5 0 ≤ 24 := by simp only [pre6]; omega
      simp only [Nat.zero_add, Nat.reduceAdd] at *
      generalize pre6 n0 n1 n2 n3 n4 n5 0 = m at *
      go_wp2
      go_roundg (gk - 1)
      case measure => omega
      case rel => exact ⟨1, grew_trans HB.out (bel1 _ _), by omega, rfl, by rw [← e.out]⟩
    · have hix : ∀ W, (Instr.index 54 (.agg #[.slice a0 n0 cap0, .int .i64 c0, .slice a1 n1 cap1, .int .i64 c1, .slice a2 n2 cap2, .int .i64 c2, .slice a3 n3 cap3, .int .i64 c3, .slice a4 n4 cap4, .int .i64 c4, .slice a5 n5 cap5, .int .i64 c5]) (.int .i64 1)).run Try.prog W = .ok (.agg #[.slice a1 n1 cap1, .int .i64 c1]) W := fun W => by kernel_rfl
      have e := Lib.hid (show pre6 n0 n1 n2 n3 n4 n5 1 + n1 = pre6 n0 n1 n2 n3 n4 n5 2 from rfl)
      have g1 : (0 : Int) ≤ pre6 n0 n1 n2 n3 n4 n5 1 := by simp only [pre6]; omega
      have g2 : pre6 n0 n1 n2 n3 n4 n5 1 ≤ 24 := by simp only [pre6]; omega
      simp only [Nat.zero_add, Nat.reduceAdd] at *
      generalize pre6 n0 n1 n2 n3 n4 n5 1 = m at *
      go_wp2
      go_roundg (gk - 1)
      case measure => omega
      case rel => exact ⟨2, grew_trans HB.out (bel1 _ _), by omega, rfl, by rw [← e.out]⟩
    · have hix : ∀ W, (Instr.index 54 (.agg #[.slice a0 n0 cap0, .int .i64 c0, .slice a1 n1 cap1, .int .i64 c1, .slice a2 n2 cap2, .int .i64 c2, .slice a3 n3 cap3, .int .i64 c3, .slice a4 n4 cap4, .int .i64 c4, .slice a5 n5 cap5, .int .i64 c5]) (.int .i64 2)).run Try.prog W = .ok (.agg #[.slice a2 n2 cap2, .int .i64 c2]) W := fun W => by kernel_rfl
      have e := Lib.hid (show pre6 n0 n1 n2 n3 n4 n5 2 + n2 = pre6 n0 n1 n2 n3 n4 n5 3 from rfl)
      have g1 : (0 : Int) ≤ pre6 n0 n1 n2 n3 n4 n5 2 := by simp only [pre6]; omega
      have g2 : pre6 n0 n1 n2 n3 n4 n5 2 ≤ 24 := by simp only [pre6]; omega
      simp only [Nat.zero_add, Nat.reduceAdd] at *
      generalize pre6 n0 n1 n2 n3 n4 n5 2 = m at *
      go_wp2
      go_roundg (gk - 1)
      case measure => omega
      case rel => exact ⟨3, grew_trans HB.out (bel1 _ _), by omega, rfl, by rw [← e.out]⟩
    · have hix : ∀ W, (Instr.index 54 (.agg #[.slice a0 n0 cap0, .int .i64 c0, .slice a1 n1 cap1, .int .i64 c1, .slice a2 n2 cap2, .int .i64 c2, .slice a3 n3 cap3, .int .i64 c3, .slice a4 n4 cap4, .int .i64 c4, .slice a5 n5 cap5, .int .i64 c5]) (.int .i64 3)).run Try.prog W = .ok (.agg #[.slice a3 n3 cap3, .int .i64 c3]) W := fun W => by kernel_rfl
      have e := Lib.hid (show pre6 n0 n1 n2 n3 n4 n5 3 + n3 = pre6 n0 n1 n2 n3 n4 n5 4 from rfl)
      have g1 : (0 : Int) ≤ pre6 n0 n1 n2 n3 n4 n5 3 := by simp only [pre6]; omega
      have g2 : pre6 n0 n1 n2 n3 n4 n5 3 ≤ 24 := by simp only [pre6]; omega
      simp only [Nat.zero_add, Nat.reduceAdd] at *
      generalize pre6 n0 n1 n2 n3 n4 n5 3 = m at *
      go_wp2
      go_roundg (gk - 1)
      case measure => omega
      case rel => exact ⟨4, grew_trans HB.out (bel1 _ _), by omega, rfl, by rw [← e.out]⟩
    · have hix : ∀ W, (Instr.index 54 (.agg #[.slice a0 n0 cap0, .int .i64 c0, .slice a1 n1 cap1, .int .i64 c1, .slice a2 n2 cap2, .int .i64 c2, .slice a3 n3 cap3, .int .i64 c3, .slice a4 n4 cap4, .int .i64 c4, .slice a5 n5 cap5, .int .i64 c5]) (.int .i64 4)).run Try.prog W = .ok (.agg #[.slice a4 n4 cap4, .int .i64 c4]) W := fun W => by kernel_rfl
      have e := Lib.hid (show pre6 n0 n1 n2 n3 n4 n5 4 + n4 = pre6 n0 n1 n2 n3 n4 n5 5 from rfl)
      have g1 : (0 : Int) ≤ pre6 n0 n1 n2 n3 n4 n5 4 := by simp only [pre6]; omega
      have g2 : pre6 n0 n1 n2 n3 n4 n5 4 ≤ 24 := by simp only [pre6]; omega
      simp only [Nat.zero_add, Nat.reduceAdd] at *
      generalize pre6 n0 n1 n2 n3 n4 n5 4 = m at *
      go_wp2
      go_roundg (gk - 1)
      case measure => omega
      case rel => exact ⟨5, grew_trans HB.out (bel1 _ _), by omega, rfl, by rw [← e.out]⟩
    · have hix : ∀ W, (Instr.index 54 (.agg #[.slice a0 n0 cap0, .int .i64 c0, .slice a1 n1 cap1, .int .i64 c1, .slice a2 n2 cap2, .int .i64 c2, .slice a3 n3 cap3, .int .i64 c3, .slice a4 n4 cap4, .int .i64 c4, .slice a5 n5 cap5, .int .i64 c5]) (.int .i64 5)).run Try.prog W = .ok (.agg #[.slice a5 n5 cap5, .int .i64 c5]) W := fun W => by kernel_rfl
      have e := Lib.hid (show pre6 n0 n1 n2 n3 n4 n5 5 + n5 = pre6 n0 n1 n2 n3 n4 n5 6 from rfl)
      have g1 : (0 : Int) ≤ pre6 n0 n1 n2 n3 n4 n5 5 := by simp only [pre6]; omega
      have g2 : pre6 n0 n1 n2 n3 n4 n5 5 ≤ 24 := by simp only [pre6]; omega
      simp only [Nat.zero_add, Nat.reduceAdd] at *
      generalize pre6 n0 n1 n2 n3 n4 n5 5 = m at *
      go_wp2
      go_roundg (gk - 1)
      case measure => omega
      case rel => exact ⟨6, grew_trans HB.out (bel1 _ _), by omega, rfl, by rw [← e.out]⟩
    · have e := Lib.hid (show pre6 n0 n1 n2 n3 n4 n5 6 = (lenS s : Int) by rw [hL.out]; simp only [pre6]; omega)
      simp only [Nat.zero_add, Nat.reduceAdd] at *
      generalize pre6 n0 n1 n2 n3 n4 n5 6 = m at *
      go_wp2
      go_ret
      exact retI e.out HB.out
    · omega
end Go.Proofs.Ytkojjnkohnokoaa
