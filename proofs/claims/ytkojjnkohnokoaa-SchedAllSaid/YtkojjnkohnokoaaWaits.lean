/- Waits and Len: the program's, and the reference's. -/
import Derived.Test.YtkojjnkohnokoaaLeaf
namespace Go.Proofs.Ytkojjnkohnokoaa
open Go.RowKit Go.Joins

theorem bytes_take {l : List BA} (h : GoodQ l) (i : Nat) : 0 ≤ bytes (l.take i) ∧ bytes (l.take i) ≤ 32768 :=
  ⟨bytes_nonneg _, bytes_le ⟨by have := h.1; simp; omega, fun b hb => h.2 b (List.mem_of_mem_take hb)⟩⟩
theorem bytes_snoc {l : List BA} {i : Nat} (h : i < l.length) : bytes (l.take (i + 1)) = bytes (l.take i) + (l.getD i ⟨#[]⟩).size := by
  rw [take_snoc l i ⟨#[]⟩ h, bytes_append]
  simp [bytes]
theorem getD_size {l : List BA} (h : GoodQ l) {i : Nat} (hi : i < l.length) : ((l.getD i ⟨#[]⟩).size : Int) ≤ 8192 := by
  have : l.getD i ⟨#[]⟩ ∈ l := by rw [List.getD_eq_getElem?_getD, List.getElem?_eq_getElem hi]; exact List.getElem_mem hi
  have := (h.2 _ this).2
  omega
set_option maxHeartbeats 1000000 in
set_option maxRecDepth 100000 in
theorem waits_any (base p : Nat) (vs : Nat → Value) (s : St) (lk : Int) (w : World) (h : Sch w base p 56 vs s) (hg : Good s) : Calls Try.prog 16 #[.pointer (some ⟨p, 0, none⟩), .int .i64 lk] w (SameI (waitsS s lk) w) := by
  by_cases h1 : lk < 0
  · have hE := Lib.hid (show 0 = waitsS s lk by simp only [waitsS, if_pos (Or.inl h1 : lk < 0 ∨ 6 ≤ lk)])
    go_enter Try.func16, Try.ntmps16
    go_wp2
    go_ret
    exact sameI hE.out
  · have k1 : 0 ≤ lk := by omega
    by_cases h2 : 6 ≤ lk
    · have hE := Lib.hid (show 0 = waitsS s lk by simp only [waitsS, if_pos (Or.inr h2 : lk < 0 ∨ 6 ≤ lk)])
      clear h1
      go_enter Try.func16, Try.ntmps16
      go_wp2
      go_ret
      exact sameI hE.out
    · have k2 : lk < 6 := by omega
      obtain ⟨k, rfl⟩ : ∃ k : Nat, lk = k := ⟨lk.toNat, by omega⟩
      have hk : k < 6 := by omega
      have hE := Lib.hid (show bytes (s.q k) = waitsS s k by simp only [waitsS, if_neg (show ¬ ((k : Int) < 0 ∨ 6 ≤ (k : Int)) by omega), Int.toNat_natCast])
      have hc := h.cell (tabs12 s.c) hk
      obtain ⟨a, cap, hv, -, -, -, hel⟩ := (h.que k hk).form
      rw [hv] at hc
      have GQ := Lib.hid (hg k hk).1
      have HEL := Lib.hid hel
      have hl4 : ((s.q k).length : Int) ≤ 4 := by have := (hg k hk).1.1; omega
      clear h hv hel h1 h2 hg
      generalize s.q k = l at *
      generalize hn : l.length = n at *
      have hN := Lib.hid hn
      clear hn
      go_enter Try.func16, Try.ntmps16
      go_wp2
      go_loopg [5, 7, 27] n (fun gk v5 v7 v27 wr => ∃ i : Nat, wr = w ∧ i + gk = n ∧ v27 = .int .i64 (i : Int) ∧ v5 = .int .i64 (bytes (l.take i)))
      case atStart => exact ⟨0, rfl, by omega, rfl, by simp [bytes]⟩
      case round =>
        obtain ⟨i, rfl, hik, rfl, rfl⟩ := hrel
        by_cases hlt : i < n
        · have hli : (i : Int) < (n : Int) := by omega
          have hil : i < l.length := by have := hN.out; omega
          have hsn := Lib.hid (bytes_snoc hil)
          have hsz := getD_size GQ.out hil
          have hz0 : (0 : Int) ≤ ((l.getD i ⟨#[]⟩).size : Int) := by omega
          obtain ⟨b, off, rfl, -, -, hcx⟩ := HEL.out i (l.getD i ⟨#[]⟩) (by simp [List.getD_eq_getElem?_getD, hil])
          have hb1 := (bytes_take GQ.out i).1
          have hb2 := (bytes_take GQ.out i).2
          have hi5 : (i : Int) + 1 ≤ 5 := by omega
          generalize l.getD i ⟨#[]⟩ = x at *
          generalize bytes (l.take i) = m at *
          go_wp2
          go_roundg (gk - 1)
          case measure => omega
          case rel => exact ⟨i + 1, rfl, by omega, by simp, by rw [hsn.out]⟩
        · have hge : (n : Int) ≤ (i : Int) := by omega
          have hii : i = n := by omega
          subst hii
          have hE2 := Lib.hid (show bytes (l.take i) = waitsS s k by rw [List.take_of_length_le (by have := hN.out; omega)]; exact hE.out)
          go_wp2
          go_ret
          exact sameI hE2.out
set_option maxHeartbeats 1000000 in
set_option maxRecDepth 100000 in
theorem rwaits_any (base p : Nat) (vs : Nat → Value) (s : St) (lk : Int) (w : World) (h : Sch w base p 31 vs s) (hg : Good s) : Calls Try.prog 17 #[.pointer (some ⟨p, 0, none⟩), .int .i64 lk] w (SameI (waitsS s lk) w) := by
  by_cases h1 : lk < 0
  · have hE := Lib.hid (show 0 = waitsS s lk by simp only [waitsS, if_pos (Or.inl h1 : lk < 0 ∨ 6 ≤ lk)])
    go_enter Try.func17, Try.ntmps17
    go_wp2
    go_ret
    exact sameI hE.out
  · have k1 : 0 ≤ lk := by omega
    by_cases h2 : 6 ≤ lk
    · have hE := Lib.hid (show 0 = waitsS s lk by simp only [waitsS, if_pos (Or.inr h2 : lk < 0 ∨ 6 ≤ lk)])
      clear h1
      go_enter Try.func17, Try.ntmps17
      go_wp2
      go_ret
      exact sameI hE.out
    · have k2 : lk < 6 := by omega
      obtain ⟨k, rfl⟩ : ∃ k : Nat, lk = k := ⟨lk.toNat, by omega⟩
      have hk : k < 6 := by omega
      have hE := Lib.hid (show bytes (s.q k) = waitsS s k by simp only [waitsS, if_neg (show ¬ ((k : Int) < 0 ∨ 6 ≤ (k : Int)) by omega), Int.toNat_natCast])
      have hc := h.cell (tabs12 s.c) hk
      obtain ⟨a, cap, hv, -, -, -, hel⟩ := (h.que k hk).form
      rw [hv] at hc
      have GQ := Lib.hid (hg k hk).1
      have HEL := Lib.hid hel
      have hl4 : ((s.q k).length : Int) ≤ 4 := by have := (hg k hk).1.1; omega
      clear h hv hel h1 h2 hg
      generalize s.q k = l at *
      generalize hn : l.length = n at *
      have hN := Lib.hid hn
      clear hn
      go_enter Try.func17, Try.ntmps17
      go_wp2
      go_loopg [5, 6] n (fun gk v5 v6 wr => ∃ i : Nat, wr = w ∧ i + gk = n ∧ v6 = .int .i64 (i : Int) ∧ v5 = .int .i64 (bytes (l.take i)))
      case atStart => exact ⟨0, rfl, by omega, rfl, by simp [bytes]⟩
      case round =>
        obtain ⟨i, rfl, hik, rfl, rfl⟩ := hrel
        by_cases hlt : i < n
        · have hli : (i : Int) < (n : Int) := by omega
          have hil : i < l.length := by have := hN.out; omega
          have hsn := Lib.hid (bytes_snoc hil)
          have hsz := getD_size GQ.out hil
          have hz0 : (0 : Int) ≤ ((l.getD i ⟨#[]⟩).size : Int) := by omega
          obtain ⟨b, off, rfl, -, -, hcx⟩ := HEL.out i (l.getD i ⟨#[]⟩) (by simp [List.getD_eq_getElem?_getD, hil])
          have hb1 := (bytes_take GQ.out i).1
          have hb2 := (bytes_take GQ.out i).2
          have hi5 : (i : Int) + 1 ≤ 5 := by omega
          generalize l.getD i ⟨#[]⟩ = x at *
          generalize bytes (l.take i) = m at *
          go_wp2
          go_roundg (gk - 1)
          case measure => omega
          case rel => exact ⟨i + 1, rfl, by omega, by simp, by rw [hsn.out]⟩
        · have hge : (n : Int) ≤ (i : Int) := by omega
          have hii : i = n := by omega
          subst hii
          have hE2 := Lib.hid (show bytes (l.take i) = waitsS s k by rw [List.take_of_length_le (by have := hN.out; omega)]; exact hE.out)
          go_wp2
          go_ret
          exact sameI hE2.out
set_option maxHeartbeats 1000000 in
set_option maxRecDepth 100000 in
theorem rlen_any (base p : Nat) (vs : Nat → Value) (s : St) (w : World) (h : Sch w base p 31 vs s) (hg : Good s) : Calls Try.prog 15 #[.pointer (some ⟨p, 0, none⟩)] w (SameI (lenS s : Int) w) := by
  have H := Lib.hid h
  have G := Lib.hid hg
  clear h hg
  go_enter Try.func15, Try.ntmps15
  go_wp2
  go_loopg [3, 4] 6 (fun gk v3 v4 wr => ∃ i : Nat, wr = w ∧ i + gk = 6 ∧ v4 = .int .i64 (i : Int) ∧ v3 = .int .i64 (lenTo i s : Int))
  case atStart => exact ⟨0, rfl, by omega, rfl, by simp [lenTo]⟩
  case round =>
    obtain ⟨i, rfl, hik, rfl, rfl⟩ := hrel
    by_cases hlt : i < 6
    · have hli : (i : Int) < 6 := by omega
      have hc := H.out.cell (tabs12 s.c) hlt
      obtain ⟨a, cap, hv, -⟩ := (H.out.que i hlt).form
      rw [hv] at hc
      clear hv
      have hm : ((s.q i).length : Int) ≤ 4 := by have := (G.out i hlt).1.1; omega
      have hn : (lenTo i s : Int) ≤ 24 := by have := lenTo_le G.out (k := i) (by omega); omega
      have hsn := Lib.hid (show (lenTo (i + 1) s : Int) = lenTo i s + (s.q i).length by simp [lenTo])
      generalize (s.q i).length = n at *
      generalize lenTo i s = m at *
      go_wp2
      go_roundg (gk - 1)
      case measure => omega
      case rel => exact ⟨i + 1, rfl, by omega, by simp, by rw [hsn.out]⟩
    · have hge : (6 : Int) ≤ (i : Int) := by omega
      have hii : i = 6 := by omega
      subst hii
      go_wp2
      go_ret
      exact sameI rfl
end Go.Proofs.Ytkojjnkohnokoaa
