/- Of two choices. -/
import Derived.Test.YtcleaamjfjnkkaaClB
namespace Go.Proofs.Ytcleaamjfjnkkaa
open Go.RowKit Go.Joins

set_option linter.unusedSimpArgs false in
set_option linter.unusedVariables false in
set_option maxHeartbeats 8000000 in
set_option maxRecDepth 100000 in
theorem kstep_g1 {w : World} {base q : Nat} {V : Nat → VM} {l : LM} {ys : List RY} {k : Clu} {T : Int} (h : KAt w base q V l ys k) (inv : CInv T k) (hT : T ≤ 800000) (a b : Int) (ha : 0 ≤ a ∧ a ≤ 255) (hb : 0 ≤ b ∧ b ≤ 255) (hs : 12 ≤ a % 16) (h0 : 0 < k.net.length) :
    Calls Try.prog 19 #[.pointer (some ⟨q, 0, none⟩), .int .u8 a, .int .u8 b] w (Tup0 (KUpd base q V l (k.stepN a b) w)) := by
  have mixed : Try.prog.follows .mixedOrders = true := by kernel_rfl
  have hML : ys.length = k.net.length := by rw [← h.eq, List.length_map]
  obtain ⟨na, nc, hnv, -, -⟩ := h.net.sli EY
  rw [hML] at hnv
  have g6 := (h.cells (n := 0) (by omega)).2.2.1
  rw [hnv] at g6
  have HN := Lib.hid hnv
  have HML := Lib.hid hML
  have HH := Lib.hid h
  have HI := Lib.hid inv
  have HTT := Lib.hid hT
  obtain ⟨ha0, ha1⟩ := ha
  obtain ⟨hb0, hb1⟩ := hb
  have hM200 : (k.net.length : Int) ≤ 200 := by have := inv.net; omega
  have hc0 : (a % 16 == 0) = false := by simp; omega
  have hc1 : (a % 16 == 1) = false := by simp; omega
  have hc2 : (a % 16 == 2) = false := by simp; omega
  have hc3 : (a % 16 == 3) = false := by simp; omega
  have hc4 : (a % 16 == 4) = false := by simp; omega
  have hc5 : (a % 16 == 5) = false := by simp; omega
  have hc6 : (a % 16 == 6) = false := by simp; omega
  have hc7 : (a % 16 == 7) = false := by simp; omega
  have hc8 : (a % 16 == 8) = false := by simp; omega
  have hc9 : (a % 16 == 9) = false := by simp; omega
  have hc10 : (a % 16 == 10) = false := by simp; omega
  have hc11 : (a % 16 == 11) = false := by simp; omega
  have hs15 : a % 16 ≤ 15 := by omega
  have h0i : 0 < (k.net.length : Int) := by omega
  have hstep : k.stepN a b = k.delN (b % (k.net.length : Int)).toNat a := by
    unfold Clu.stepN; simp only
    rw [if_neg (by omega), if_neg (by omega), if_neg (by omega), if_neg (by omega), if_neg (by omega), if_neg (by omega), if_pos h0, if_pos h0]
  have HS := Lib.hid hstep
  have he0 := Int.emod_nonneg b (show (k.net.length : Int) ≠ 0 by omega)
  have he1 := Int.emod_lt_of_pos b h0i
  have HD := Lib.hid (fun z hz0 hz1 => kdel_any h (inv.ms (by omega)) z a hz0 hz1 (i64c ha0 (by omega)))
  clear h inv hT hML hnv hs h0 hstep
  go_enter Try.func19, Try.ntmps19
  go_wp2_with (go_at_call 50; refine (HD.out _ he0 he1).mono ?_; rintro e w1 ⟨rfl, hU⟩; have HU := Lib.hid hU; clear hU)
  go_end0
  exact ⟨rfl, by rw [HS.out]; exact HU.out⟩
set_option linter.unusedSimpArgs false in
set_option linter.unusedVariables false in
set_option maxHeartbeats 8000000 in
set_option maxRecDepth 100000 in
theorem kstep_g0 {w : World} {base q : Nat} {V : Nat → VM} {l : LM} {ys : List RY} {k : Clu} {T : Int} (h : KAt w base q V l ys k) (inv : CInv T k) (hT : T ≤ 800000) (a b : Int) (ha : 0 ≤ a ∧ a ≤ 255) (hb : 0 ≤ b ∧ b ≤ 255) (hs : 12 ≤ a % 16) (h0 : k.net.length = 0) :
    Calls Try.prog 19 #[.pointer (some ⟨q, 0, none⟩), .int .u8 a, .int .u8 b] w (Tup0 (KUpd base q V l (k.stepN a b) w)) := by
  have mixed : Try.prog.follows .mixedOrders = true := by kernel_rfl
  have hML : ys.length = k.net.length := by rw [← h.eq, List.length_map]
  obtain ⟨na, nc, hnv, -, -⟩ := h.net.sli EY
  rw [hML] at hnv
  have g6 := (h.cells (n := 0) (by omega)).2.2.1
  rw [hnv] at g6
  have HN := Lib.hid hnv
  have HML := Lib.hid hML
  have HH := Lib.hid h
  have HI := Lib.hid inv
  have HTT := Lib.hid hT
  obtain ⟨ha0, ha1⟩ := ha
  obtain ⟨hb0, hb1⟩ := hb
  have hM200 : (k.net.length : Int) ≤ 200 := by have := inv.net; omega
  have hc0 : (a % 16 == 0) = false := by simp; omega
  have hc1 : (a % 16 == 1) = false := by simp; omega
  have hc2 : (a % 16 == 2) = false := by simp; omega
  have hc3 : (a % 16 == 3) = false := by simp; omega
  have hc4 : (a % 16 == 4) = false := by simp; omega
  have hc5 : (a % 16 == 5) = false := by simp; omega
  have hc6 : (a % 16 == 6) = false := by simp; omega
  have hc7 : (a % 16 == 7) = false := by simp; omega
  have hc8 : (a % 16 == 8) = false := by simp; omega
  have hc9 : (a % 16 == 9) = false := by simp; omega
  have hc10 : (a % 16 == 10) = false := by simp; omega
  have hc11 : (a % 16 == 11) = false := by simp; omega
  have hs15 : a % 16 ≤ 15 := by omega
  have h0i : (k.net.length : Int) = 0 := by omega
  have hstep : k.stepN a b = k := by
    unfold Clu.stepN; simp only
    rw [if_neg (by omega), if_neg (by omega), if_neg (by omega), if_neg (by omega), if_neg (by omega), if_neg (by omega), if_neg (by omega)]
  have HS := Lib.hid hstep
  rw [h0] at g6
  clear inv hT hML hnv hs hstep h0i h0 hM200 h
  go_enter Try.func19, Try.ntmps19
  go_wp2
  go_end0
  exact ⟨rfl, by rw [HS.out]; exact HH.out.stay (Below.refl _ _)⟩
set_option linter.unusedSimpArgs false in
set_option linter.unusedVariables false in
set_option maxHeartbeats 8000000 in
set_option maxRecDepth 100000 in
theorem kstep_b0 {w : World} {base q : Nat} {V : Nat → VM} {l : LM} {ys : List RY} {k : Clu} {T : Int} (h : KAt w base q V l ys k) (inv : CInv T k) (hT : T ≤ 800000) (a b : Int) (ha : 0 ≤ a ∧ a ≤ 255) (hb : 0 ≤ b ∧ b ≤ 255) (hs : a % 16 = 6) (h0 : k.net.length = 0) :
    Calls Try.prog 19 #[.pointer (some ⟨q, 0, none⟩), .int .u8 a, .int .u8 b] w (Tup0 (KUpd base q V l (k.stepN a b) w)) := by
  have mixed : Try.prog.follows .mixedOrders = true := by kernel_rfl
  have hML : ys.length = k.net.length := by rw [← h.eq, List.length_map]
  obtain ⟨na, nc, hnv, -, -⟩ := h.net.sli EY
  rw [hML] at hnv
  have g6 := (h.cells (n := 0) (by omega)).2.2.1
  rw [hnv] at g6
  have HN := Lib.hid hnv
  have HML := Lib.hid hML
  have HH := Lib.hid h
  have HI := Lib.hid inv
  have HTT := Lib.hid hT
  obtain ⟨ha0, ha1⟩ := ha
  obtain ⟨hb0, hb1⟩ := hb
  have hM200 : (k.net.length : Int) ≤ 200 := by have := inv.net; omega
  have hc0 : (a % 16 == 0) = false := by simp; omega
  have hc1 : (a % 16 == 1) = false := by simp; omega
  have hc2 : (a % 16 == 2) = false := by simp; omega
  have hc3 : (a % 16 == 3) = false := by simp; omega
  have hc4 : (a % 16 == 4) = false := by simp; omega
  have hc5 : (a % 16 == 5) = false := by simp; omega
  have hc6 : (a % 16 == 6) = true := by simp; omega
  rw [h0] at g6
  have hstep : k.stepN a b = k.tickN (b % 3).toNat b := by
    unfold Clu.stepN; simp only
    rw [if_neg (by omega), if_pos hs]
  have HS := Lib.hid hstep
  have HT6 := Lib.hid (fun W (d : Int) (hW : KAt W base q V l ys k) hd => ktick_any hW (inv.ms (by omega)).toKOk (b % 3) d (by omega) (by omega) hd)
  clear inv hT hML hnv hs hstep h0 hM200 h
  go_enter Try.func19, Try.ntmps19
  go_wp2_with (go_at_call 49; refine (HT6.out _ b HH.out (i64c hb0 (by omega))).mono ?_; rintro e w1 ⟨rfl, hU⟩; have HU := Lib.hid hU; clear hU)
  go_end0
  exact ⟨rfl, by rw [HS.out]; exact HU.out⟩
set_option linter.unusedSimpArgs false in
set_option linter.unusedVariables false in
set_option maxHeartbeats 8000000 in
set_option maxRecDepth 100000 in
theorem kstep_b1 {w : World} {base q : Nat} {V : Nat → VM} {l : LM} {ys : List RY} {k : Clu} {T : Int} (h : KAt w base q V l ys k) (inv : CInv T k) (hT : T ≤ 800000) (a b : Int) (ha : 0 ≤ a ∧ a ≤ 255) (hb : 0 ≤ b ∧ b ≤ 255) (hs : a % 16 = 6) (h0 : 0 < k.net.length) :
    Calls Try.prog 19 #[.pointer (some ⟨q, 0, none⟩), .int .u8 a, .int .u8 b] w (Tup0 (KUpd base q V l (k.stepN a b) w)) := by
  have mixed : Try.prog.follows .mixedOrders = true := by kernel_rfl
  have hML : ys.length = k.net.length := by rw [← h.eq, List.length_map]
  obtain ⟨na, nc, hnv, -, -⟩ := h.net.sli EY
  rw [hML] at hnv
  have g6 := (h.cells (n := 0) (by omega)).2.2.1
  rw [hnv] at g6
  have HN := Lib.hid hnv
  have HML := Lib.hid hML
  have HH := Lib.hid h
  have HI := Lib.hid inv
  have HTT := Lib.hid hT
  obtain ⟨ha0, ha1⟩ := ha
  obtain ⟨hb0, hb1⟩ := hb
  have hM200 : (k.net.length : Int) ≤ 200 := by have := inv.net; omega
  have hc0 : (a % 16 == 0) = false := by simp; omega
  have hc1 : (a % 16 == 1) = false := by simp; omega
  have hc2 : (a % 16 == 2) = false := by simp; omega
  have hc3 : (a % 16 == 3) = false := by simp; omega
  have hc4 : (a % 16 == 4) = false := by simp; omega
  have hc5 : (a % 16 == 5) = false := by simp; omega
  have hc6 : (a % 16 == 6) = true := by simp; omega
  have h0i : 0 < (k.net.length : Int) := by omega
  have he0 := Int.emod_nonneg b (show (k.net.length : Int) ≠ 0 by omega)
  have he1 := Int.emod_lt_of_pos b h0i
  have hstep : k.stepN a b = k.tickN (b % 3).toNat b := by
    unfold Clu.stepN; simp only
    rw [if_neg (by omega), if_pos hs]
  have HS := Lib.hid hstep
  have HT6 := Lib.hid (fun W (d : Int) (hW : KAt W base q V l ys k) hd => ktick_any hW (inv.ms (by omega)).toKOk (b % 3) d (by omega) (by omega) hd)
  clear inv hT hML hnv hs hstep h0 hM200 h
  go_enter Try.func19, Try.ntmps19
  go_wp2_with (go_at_call 49; refine (HT6.out _ b HH.out (i64c hb0 (by omega))).mono ?_; rintro e w1 ⟨rfl, hU⟩; have HU := Lib.hid hU; clear hU)
  go_end0
  exact ⟨rfl, by rw [HS.out]; exact HU.out⟩
end Go.Proofs.Ytcleaamjfjnkkaa
