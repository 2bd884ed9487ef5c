/- The reference begins. -/
import Derived.Test.YtcleaamjfjnkkaaGreatRz3
namespace Go.Proofs.YtcleaamjfjnkkaaGreat
open Go.RowKit Go.Joins

def RNewP (c : Co) (w : World) (e : Ending) (w' : World) : Prop := ∃ q lv, e = .returned (.pointer (some ⟨q, 0, none⟩)) ∧ RL w' w.heap.size q lv (.slice none 0 0) (.slice none 0 0) (fun _ => false) c ∧ Below w.heap.size w w'
section
variable {w : World} (me t v clock draw : Int) (a : Option Addr) (cap : Nat) (es : List Ent)
set_option linter.unusedSimpArgs false in
set_option linter.unusedVariables false in
set_option maxHeartbeats 8000000 in
set_option maxRecDepth 100000 in
theorem rnew_A (h : Sl w a cap es) (hlen : es.length ≤ 1000) (hwf : ∀ i, i < es.length → wfE (es.getD i default)) (hdr : I64 draw) (hm : me < 0) :
    Calls Tryz.prog 5 #[.int .i64 me, .agg #[.int .u64 t, .int .i64 v, .slice a es.length cap], .int .i64 clock, .int .i64 draw] w (NilP w) := by
  have mixed : Tryz.prog.follows .mixedOrders = true := by kernel_rfl
  have HW := Lib.hid (bel1 w (.cells #[.int .u64 t, .int .i64 v, .slice a es.length cap] 25))
  have HBL := Lib.hid (heap_alloc_new w (.cells #[.int .u64 t, .int .i64 v, .slice a es.length cap] 25))
  have HSL := Lib.hid (h.below HW.out)
  have HI := Lib.hid (And.intro hlen (And.intro hwf hdr))
  have HCK := Lib.hid (fun W (hb : Below (w.alloc (.cells #[.int .u64 t, .int .i64 v, .slice a es.length cap] 25)).heap.size (w.alloc (.cells #[.int .u64 t, .int .i64 v, .slice a es.length cap] 25)) W) => rcheck_any a cap es W (ents_below HSL.out.ents hb) (by unfold maxLen; omega) hwf)
  have HLA := Lib.hid (fun W (hb : Below (w.alloc (.cells #[.int .u64 t, .int .i64 v, .slice a es.length cap] 25)).heap.size (w.alloc (.cells #[.int .u64 t, .int .i64 v, .slice a es.length cap] 25)) W) => rlast_any a cap es W (ents_below HSL.out.ents hb) (by unfold maxLen; omega))
  have hd0 : decide (me < 0) = true := decide_eq_true hm
  clear h hlen hwf hdr
  go_enter Tryz.func5, Tryz.ntmps5
  go_upto_region 1 with fail
  generalize w.alloc (.cells #[.int .u64 t, .int .i64 v, .slice a es.length cap] 25) = Y at *
  generalize hnb : w.heap.size = nb at *
  have HNB := Lib.hid hnb
  clear hnb
  have HC := Lib.hid (show (Cel3 ⟨nb, 0, none⟩ (.int .u64 t) ⟨nb, 1, none⟩ (.int .i64 v) ⟨nb, 2, none⟩ (.slice a es.length cap)) Y from ⟨(cell_of HBL.out 0 rfl).1, (cell_of HBL.out 1 rfl).1, (cell_of HBL.out 2 rfl).1⟩)
  refine wp_region_noPanic ?_
  refine wp_region_lim (Cel3 ⟨nb, 0, none⟩ (.int .u64 t) ⟨nb, 1, none⟩ (.int .i64 v) ⟨nb, 2, none⟩ (.slice a es.length cap)) (fun i => decide (i < 30)) (fun i => false) (by kernel_rfl) (by kernel_rfl) (cel3_bel HC.out (Below.refl _ _).drew) (fun HT hS0 => ?_)
  have HB0 := Lib.hid (show Below Y.heap.size Y Y.drew from (Below.refl _ Y).drew)
  refine tkD HT 0 11 (v := ?_) ?_ ?_
  rotate_left
  · (intro w5 hSw; obtain ⟨q1, q2, q3⟩ := hSw; go_simp; (try with_reducible rfl))
  try simp only [s1, s2, s3]
  refine tkD HT 1 12 (v := ?_) ?_ ?_
  rotate_left
  · (intro w5 hSw; obtain ⟨q1, q2, q3⟩ := hSw; go_simp; (try with_reducible rfl))
  try simp only [s1, s2, s3]
  refine tkD HT 2 13 (v := ?_) ?_ ?_
  rotate_left
  · (intro w5 hSw; obtain ⟨q1, q2, q3⟩ := hSw; go_simp; (try with_reducible rfl))
  try simp only [s1, s2, s3]
  refine tkN HT 3 14 ?_
  try simp only [s1, s2, s3]
  refine tkN HT 4 15 ?_
  try simp only [s1, s2, s3]
  refine tkD HT 5 16 (v := ?_) ?_ ?_
  rotate_left
  · (intro w5 hSw; obtain ⟨q1, q2, q3⟩ := hSw; go_simp; (try with_reducible rfl))
  try simp only [s1, s2, s3]
  refine tkD HT 6 17 (v := ?_) ?_ ?_
  rotate_left
  · (intro w5 hSw; obtain ⟨q1, q2, q3⟩ := hSw; go_simp; (try with_reducible rfl))
  try simp only [s1, s2, s3]
  refine tkN HT 7 18 ?_
  try simp only [s1, s2, s3]
  refine tkN HT 8 19 ?_
  try simp only [s1, s2, s3]
  refine tkN HT 9 20 ?_
  try simp only [s1, s2, s3]
  refine tkN HT 10 21 ?_
  try simp only [s1, s2, s3]
  refine tkD HT 11 22 (v := ?_) ?_ ?_
  rotate_left
  · (intro w5 hSw; obtain ⟨q1, q2, q3⟩ := hSw; go_simp; (try with_reducible rfl))
  try simp only [s1, s2, s3]
  refine tkD HT 12 23 (v := ?_) ?_ ?_
  rotate_left
  · (intro w5 hSw; obtain ⟨q1, q2, q3⟩ := hSw; go_simp; (try with_reducible rfl))
  try simp only [s1, s2, s3]
  refine tkN HT 13 24 ?_
  try simp only [s1, s2, s3]
  refine tkN HT 14 25 ?_
  try simp only [s1, s2, s3]
  refine tkN HT 15 26 ?_
  try simp only [s1, s2, s3]
  refine tkD HT 16 27 (v := ?_) ?_ ?_
  rotate_left
  · (intro w5 hSw; obtain ⟨q1, q2, q3⟩ := hSw; go_simp; (try with_reducible rfl))
  try simp only [s1, s2, s3]
  refine tkD HT 17 28 (v := ?_) ?_ ?_
  rotate_left
  · (intro w5 hSw; obtain ⟨q1, q2, q3⟩ := hSw; go_simp; (try with_reducible rfl))
  try simp only [s1, s2, s3]
  refine tkN HT 18 29 ?_
  try simp only [s1, s2, s3]
  refine tkN HT 19 30 ?_
  try simp only [s1, s2, s3]
  refine tkN HT 20 31 ?_
  try simp only [s1, s2, s3]
  refine tkD HT 21 32 (v := ?_) ?_ ?_
  rotate_left
  · (intro w5 hSw; obtain ⟨q1, q2, q3⟩ := hSw; go_simp; (try with_reducible rfl))
  try simp only [s1, s2, s3]
  refine tkD HT 22 33 (v := ?_) ?_ ?_
  rotate_left
  · (intro w5 hSw; obtain ⟨q1, q2, q3⟩ := hSw; go_simp; (try with_reducible rfl))
  try simp only [s1, s2, s3]
  refine tkN HT 23 34 ?_
  try simp only [s1, s2, s3]
  refine tkN HT 24 35 ?_
  try simp only [s1, s2, s3]
  refine tkN HT 25 36 ?_
  try simp only [s1, s2, s3]
  refine tkN HT 26 37 ?_
  try simp only [s1, s2, s3]
  refine tkN HT 27 38 ?_
  try simp only [s1, s2, s3]
  refine tkN HT 28 39 ?_
  try simp only [s1, s2, s3]
  refine tkD HT 29 40 (v := ?_) ?_ ?_
  rotate_left
  · (intro w5 hSw; obtain ⟨q1, q2, q3⟩ := hSw; go_simp; (try with_reducible rfl))
  try simp only [s1, s2, s3]
  refine wpAnyM_done (by kernel_rfl) (NoPanic.normal ?_)
  go_wp2
  go_ret
  have hs : nb ≤ Y.heap.size := by have := HW.out.size; have := HNB.out; omega
  unfold NilP
  rw [HNB.out]
  exact ⟨rfl, HW.out.trans (HB0.out.mono hs)⟩
set_option linter.unusedSimpArgs false in
set_option linter.unusedVariables false in
set_option maxHeartbeats 8000000 in
set_option maxRecDepth 100000 in
theorem rnew_B (h : Sl w a cap es) (hlen : es.length ≤ 1000) (hwf : ∀ i, i < es.length → wfE (es.getD i default)) (hdr : I64 draw) (hm : 3 ≤ me) :
    Calls Tryz.prog 5 #[.int .i64 me, .agg #[.int .u64 t, .int .i64 v, .slice a es.length cap], .int .i64 clock, .int .i64 draw] w (NilP w) := by
  have mixed : Tryz.prog.follows .mixedOrders = true := by kernel_rfl
  have HW := Lib.hid (bel1 w (.cells #[.int .u64 t, .int .i64 v, .slice a es.length cap] 25))
  have HBL := Lib.hid (heap_alloc_new w (.cells #[.int .u64 t, .int .i64 v, .slice a es.length cap] 25))
  have HSL := Lib.hid (h.below HW.out)
  have HI := Lib.hid (And.intro hlen (And.intro hwf hdr))
  have HCK := Lib.hid (fun W (hb : Below (w.alloc (.cells #[.int .u64 t, .int .i64 v, .slice a es.length cap] 25)).heap.size (w.alloc (.cells #[.int .u64 t, .int .i64 v, .slice a es.length cap] 25)) W) => rcheck_any a cap es W (ents_below HSL.out.ents hb) (by unfold maxLen; omega) hwf)
  have HLA := Lib.hid (fun W (hb : Below (w.alloc (.cells #[.int .u64 t, .int .i64 v, .slice a es.length cap] 25)).heap.size (w.alloc (.cells #[.int .u64 t, .int .i64 v, .slice a es.length cap] 25)) W) => rlast_any a cap es W (ents_below HSL.out.ents hb) (by unfold maxLen; omega))
  have hm0 : 0 ≤ me := by omega
  have hd0 : decide (me < 0) = false := decide_eq_false (by omega)
  have hd1 : decide (3 ≤ me) = true := decide_eq_true hm
  clear h hlen hwf hdr
  go_enter Tryz.func5, Tryz.ntmps5
  go_upto_region 1 with fail
  generalize w.alloc (.cells #[.int .u64 t, .int .i64 v, .slice a es.length cap] 25) = Y at *
  generalize hnb : w.heap.size = nb at *
  have HNB := Lib.hid hnb
  clear hnb
  have HC := Lib.hid (show (Cel3 ⟨nb, 0, none⟩ (.int .u64 t) ⟨nb, 1, none⟩ (.int .i64 v) ⟨nb, 2, none⟩ (.slice a es.length cap)) Y from ⟨(cell_of HBL.out 0 rfl).1, (cell_of HBL.out 1 rfl).1, (cell_of HBL.out 2 rfl).1⟩)
  refine wp_region_noPanic ?_
  refine wp_region_lim (Cel3 ⟨nb, 0, none⟩ (.int .u64 t) ⟨nb, 1, none⟩ (.int .i64 v) ⟨nb, 2, none⟩ (.slice a es.length cap)) (fun i => decide (i < 30)) (fun i => false) (by kernel_rfl) (by kernel_rfl) (cel3_bel HC.out (Below.refl _ _).drew) (fun HT hS0 => ?_)
  have HB0 := Lib.hid (show Below Y.heap.size Y Y.drew from (Below.refl _ Y).drew)
  refine tkD HT 0 11 (v := ?_) ?_ ?_
  rotate_left
  · (intro w5 hSw; obtain ⟨q1, q2, q3⟩ := hSw; go_simp; (try with_reducible rfl))
  try simp only [s1, s2, s3]
  refine tkD HT 1 12 (v := ?_) ?_ ?_
  rotate_left
  · (intro w5 hSw; obtain ⟨q1, q2, q3⟩ := hSw; go_simp; (try with_reducible rfl))
  try simp only [s1, s2, s3]
  refine tkD HT 2 13 (v := ?_) ?_ ?_
  rotate_left
  · (intro w5 hSw; obtain ⟨q1, q2, q3⟩ := hSw; go_simp; (try with_reducible rfl))
  try simp only [s1, s2, s3]
  refine tkD HT 3 14 (v := ?_) ?_ ?_
  rotate_left
  · (intro w5 hSw; obtain ⟨q1, q2, q3⟩ := hSw; go_simp; (try with_reducible rfl))
  try simp only [s1, s2, s3]
  refine tkD HT 4 15 (v := ?_) ?_ ?_
  rotate_left
  · (intro w5 hSw; obtain ⟨q1, q2, q3⟩ := hSw; go_simp; (try with_reducible rfl))
  try simp only [s1, s2, s3]
  refine tkD HT 5 16 (v := ?_) ?_ ?_
  rotate_left
  · (intro w5 hSw; obtain ⟨q1, q2, q3⟩ := hSw; go_simp; (try with_reducible rfl))
  try simp only [s1, s2, s3]
  refine tkD HT 6 17 (v := ?_) ?_ ?_
  rotate_left
  · (intro w5 hSw; obtain ⟨q1, q2, q3⟩ := hSw; go_simp; (try with_reducible rfl))
  try simp only [s1, s2, s3]
  refine tkN HT 7 18 ?_
  try simp only [s1, s2, s3]
  refine tkN HT 8 19 ?_
  try simp only [s1, s2, s3]
  refine tkN HT 9 20 ?_
  try simp only [s1, s2, s3]
  refine tkN HT 10 21 ?_
  try simp only [s1, s2, s3]
  refine tkD HT 11 22 (v := ?_) ?_ ?_
  rotate_left
  · (intro w5 hSw; obtain ⟨q1, q2, q3⟩ := hSw; go_simp; (try with_reducible rfl))
  try simp only [s1, s2, s3]
  refine tkD HT 12 23 (v := ?_) ?_ ?_
  rotate_left
  · (intro w5 hSw; obtain ⟨q1, q2, q3⟩ := hSw; go_simp; (try with_reducible rfl))
  try simp only [s1, s2, s3]
  refine tkN HT 13 24 ?_
  try simp only [s1, s2, s3]
  refine tkN HT 14 25 ?_
  try simp only [s1, s2, s3]
  refine tkN HT 15 26 ?_
  try simp only [s1, s2, s3]
  refine tkD HT 16 27 (v := ?_) ?_ ?_
  rotate_left
  · (intro w5 hSw; obtain ⟨q1, q2, q3⟩ := hSw; go_simp; (try with_reducible rfl))
  try simp only [s1, s2, s3]
  refine tkD HT 17 28 (v := ?_) ?_ ?_
  rotate_left
  · (intro w5 hSw; obtain ⟨q1, q2, q3⟩ := hSw; go_simp; (try with_reducible rfl))
  try simp only [s1, s2, s3]
  refine tkN HT 18 29 ?_
  try simp only [s1, s2, s3]
  refine tkN HT 19 30 ?_
  try simp only [s1, s2, s3]
  refine tkN HT 20 31 ?_
  try simp only [s1, s2, s3]
  refine tkD HT 21 32 (v := ?_) ?_ ?_
  rotate_left
  · (intro w5 hSw; obtain ⟨q1, q2, q3⟩ := hSw; go_simp; (try with_reducible rfl))
  try simp only [s1, s2, s3]
  refine tkD HT 22 33 (v := ?_) ?_ ?_
  rotate_left
  · (intro w5 hSw; obtain ⟨q1, q2, q3⟩ := hSw; go_simp; (try with_reducible rfl))
  try simp only [s1, s2, s3]
  refine tkN HT 23 34 ?_
  try simp only [s1, s2, s3]
  refine tkN HT 24 35 ?_
  try simp only [s1, s2, s3]
  refine tkN HT 25 36 ?_
  try simp only [s1, s2, s3]
  refine tkN HT 26 37 ?_
  try simp only [s1, s2, s3]
  refine tkN HT 27 38 ?_
  try simp only [s1, s2, s3]
  refine tkN HT 28 39 ?_
  try simp only [s1, s2, s3]
  refine tkD HT 29 40 (v := ?_) ?_ ?_
  rotate_left
  · (intro w5 hSw; obtain ⟨q1, q2, q3⟩ := hSw; go_simp; (try with_reducible rfl))
  try simp only [s1, s2, s3]
  refine wpAnyM_done (by kernel_rfl) (NoPanic.normal ?_)
  go_wp2
  go_ret
  have hs : nb ≤ Y.heap.size := by have := HW.out.size; have := HNB.out; omega
  unfold NilP
  rw [HNB.out]
  exact ⟨rfl, HW.out.trans (HB0.out.mono hs)⟩
set_option linter.unusedSimpArgs false in
set_option linter.unusedVariables false in
set_option maxHeartbeats 8000000 in
set_option maxRecDepth 100000 in
theorem rnew_C (h : Sl w a cap es) (hlen : es.length ≤ 1000) (hwf : ∀ i, i < es.length → wfE (es.getD i default)) (hdr : I64 draw) (hm : 0 ≤ me ∧ me < 3) (hc : checkE es ≠ 0) :
    Calls Tryz.prog 5 #[.int .i64 me, .agg #[.int .u64 t, .int .i64 v, .slice a es.length cap], .int .i64 clock, .int .i64 draw] w (NilP w) := by
  have mixed : Tryz.prog.follows .mixedOrders = true := by kernel_rfl
  have HW := Lib.hid (bel1 w (.cells #[.int .u64 t, .int .i64 v, .slice a es.length cap] 25))
  have HBL := Lib.hid (heap_alloc_new w (.cells #[.int .u64 t, .int .i64 v, .slice a es.length cap] 25))
  have HSL := Lib.hid (h.below HW.out)
  have HI := Lib.hid (And.intro hlen (And.intro hwf hdr))
  have HCK := Lib.hid (fun W (hb : Below (w.alloc (.cells #[.int .u64 t, .int .i64 v, .slice a es.length cap] 25)).heap.size (w.alloc (.cells #[.int .u64 t, .int .i64 v, .slice a es.length cap] 25)) W) => rcheck_any a cap es W (ents_below HSL.out.ents hb) (by unfold maxLen; omega) hwf)
  have HLA := Lib.hid (fun W (hb : Below (w.alloc (.cells #[.int .u64 t, .int .i64 v, .slice a es.length cap] 25)).heap.size (w.alloc (.cells #[.int .u64 t, .int .i64 v, .slice a es.length cap] 25)) W) => rlast_any a cap es W (ents_below HSL.out.ents hb) (by unfold maxLen; omega))
  have hd0 : decide (me < 0) = false := decide_eq_false (by omega)
  have hd1 : decide (3 ≤ me) = false := decide_eq_false (by omega)
  have hm1 : 0 ≤ me := hm.1
  have hm2 : me < 3 := hm.2
  obtain ⟨ck, hck⟩ : ∃ ck, ck = checkE es := ⟨_, rfl⟩
  rw [← hck] at hc HCK
  have hcb : (ck != 0) = true := by simp [hc]
  clear hck hc
  clear h hlen hwf hdr
  go_enter Tryz.func5, Tryz.ntmps5
  go_upto_region 1 with fail
  generalize w.alloc (.cells #[.int .u64 t, .int .i64 v, .slice a es.length cap] 25) = Y at *
  generalize hnb : w.heap.size = nb at *
  have HNB := Lib.hid hnb
  clear hnb
  have HC := Lib.hid (show (Cel3 ⟨nb, 0, none⟩ (.int .u64 t) ⟨nb, 1, none⟩ (.int .i64 v) ⟨nb, 2, none⟩ (.slice a es.length cap)) Y from ⟨(cell_of HBL.out 0 rfl).1, (cell_of HBL.out 1 rfl).1, (cell_of HBL.out 2 rfl).1⟩)
  refine wp_region_noPanic ?_
  refine wp_region_lim (Cel3 ⟨nb, 0, none⟩ (.int .u64 t) ⟨nb, 1, none⟩ (.int .i64 v) ⟨nb, 2, none⟩ (.slice a es.length cap)) (fun i => decide (i < 30)) (fun i => false) (by kernel_rfl) (by kernel_rfl) (cel3_bel HC.out (Below.refl _ _).drew) (fun HT hS0 => ?_)
  have HB0 := Lib.hid (show Below Y.heap.size Y Y.drew from (Below.refl _ Y).drew)
  refine tkD HT 0 11 (v := ?_) ?_ ?_
  rotate_left
  · (intro w5 hSw; obtain ⟨q1, q2, q3⟩ := hSw; go_simp; (try with_reducible rfl))
  try simp only [s1, s2, s3]
  refine tkD HT 1 12 (v := ?_) ?_ ?_
  rotate_left
  · (intro w5 hSw; obtain ⟨q1, q2, q3⟩ := hSw; go_simp; (try with_reducible rfl))
  try simp only [s1, s2, s3]
  refine tkD HT 2 13 (v := ?_) ?_ ?_
  rotate_left
  · (intro w5 hSw; obtain ⟨q1, q2, q3⟩ := hSw; go_simp; (try with_reducible rfl))
  try simp only [s1, s2, s3]
  refine tkD HT 3 14 (v := ?_) ?_ ?_
  rotate_left
  · (intro w5 hSw; obtain ⟨q1, q2, q3⟩ := hSw; go_simp; (try with_reducible rfl))
  try simp only [s1, s2, s3]
  refine tkD HT 4 15 (v := ?_) ?_ ?_
  rotate_left
  · (intro w5 hSw; obtain ⟨q1, q2, q3⟩ := hSw; go_simp; (try with_reducible rfl))
  try simp only [s1, s2, s3]
  refine tkD HT 5 16 (v := ?_) ?_ ?_
  rotate_left
  · (intro w5 hSw; obtain ⟨q1, q2, q3⟩ := hSw; go_simp; (try with_reducible rfl))
  try simp only [s1, s2, s3]
  refine tkD HT 6 17 (v := ?_) ?_ ?_
  rotate_left
  · (intro w5 hSw; obtain ⟨q1, q2, q3⟩ := hSw; go_simp; (try with_reducible rfl))
  try simp only [s1, s2, s3]
  refine tkD HT 7 18 (v := ?_) ?_ ?_
  rotate_left
  · (intro w5 hSw; obtain ⟨q1, q2, q3⟩ := hSw; go_simp; (try with_reducible rfl))
  try simp only [s1, s2, s3]
  refine tkD HT 8 19 (v := ?_) ?_ ?_
  rotate_left
  · (intro w5 hSw; obtain ⟨q1, q2, q3⟩ := hSw; go_simp; (try with_reducible rfl))
  try simp only [s1, s2, s3]
  refine tkS 9 (fun K5 hK => ?_)
  go_simp
  go_at_call 15
  refine (HCK.out _ HB0.out).mono ?_
  rintro e w7 ⟨rfl, hb7⟩
  have HB7 := Lib.hid (grew_trans HB0.out hb7)
  clear hb7
  dsimp only
  refine hK.out _ _ (cel3_bel HC.out HB7.out) (fun hS1 => ?_)
  clear hK K5
  try simp only [Act.put, s1, s2, s3]
  refine tkD HT 10 21 (v := ?_) ?_ ?_
  rotate_left
  · (intro w5 hSw; obtain ⟨q1, q2, q3⟩ := hSw; go_simp; (try with_reducible rfl))
  try simp only [s1, s2, s3]
  refine tkD HT 11 22 (v := ?_) ?_ ?_
  rotate_left
  · (intro w5 hSw; obtain ⟨q1, q2, q3⟩ := hSw; go_simp; (try with_reducible rfl))
  try simp only [s1, s2, s3]
  refine tkD HT 12 23 (v := ?_) ?_ ?_
  rotate_left
  · (intro w5 hSw; obtain ⟨q1, q2, q3⟩ := hSw; go_simp; (try with_reducible rfl))
  try simp only [s1, s2, s3]
  refine tkN HT 13 24 ?_
  try simp only [s1, s2, s3]
  refine tkN HT 14 25 ?_
  try simp only [s1, s2, s3]
  refine tkN HT 15 26 ?_
  try simp only [s1, s2, s3]
  refine tkD HT 16 27 (v := ?_) ?_ ?_
  rotate_left
  · (intro w5 hSw; obtain ⟨q1, q2, q3⟩ := hSw; go_simp; (try with_reducible rfl))
  try simp only [s1, s2, s3]
  refine tkD HT 17 28 (v := ?_) ?_ ?_
  rotate_left
  · (intro w5 hSw; obtain ⟨q1, q2, q3⟩ := hSw; go_simp; (try with_reducible rfl))
  try simp only [s1, s2, s3]
  refine tkN HT 18 29 ?_
  try simp only [s1, s2, s3]
  refine tkN HT 19 30 ?_
  try simp only [s1, s2, s3]
  refine tkN HT 20 31 ?_
  try simp only [s1, s2, s3]
  refine tkD HT 21 32 (v := ?_) ?_ ?_
  rotate_left
  · (intro w5 hSw; obtain ⟨q1, q2, q3⟩ := hSw; go_simp; (try with_reducible rfl))
  try simp only [s1, s2, s3]
  refine tkD HT 22 33 (v := ?_) ?_ ?_
  rotate_left
  · (intro w5 hSw; obtain ⟨q1, q2, q3⟩ := hSw; go_simp; (try with_reducible rfl))
  try simp only [s1, s2, s3]
  refine tkN HT 23 34 ?_
  try simp only [s1, s2, s3]
  refine tkN HT 24 35 ?_
  try simp only [s1, s2, s3]
  refine tkN HT 25 36 ?_
  try simp only [s1, s2, s3]
  refine tkN HT 26 37 ?_
  try simp only [s1, s2, s3]
  refine tkN HT 27 38 ?_
  try simp only [s1, s2, s3]
  refine tkN HT 28 39 ?_
  try simp only [s1, s2, s3]
  refine tkD HT 29 40 (v := ?_) ?_ ?_
  rotate_left
  · (intro w5 hSw; obtain ⟨q1, q2, q3⟩ := hSw; go_simp; (try with_reducible rfl))
  try simp only [s1, s2, s3]
  refine wpAnyM_done (by kernel_rfl) (NoPanic.normal ?_)
  go_wp2
  go_ret
  have hs : nb ≤ Y.heap.size := by have := HW.out.size; have := HNB.out; omega
  unfold NilP
  rw [HNB.out]
  exact ⟨rfl, HW.out.trans (HB7.out.mono hs)⟩
set_option linter.unusedSimpArgs false in
set_option linter.unusedVariables false in
set_option maxHeartbeats 8000000 in
set_option maxRecDepth 100000 in
theorem rnew_D (h : Sl w a cap es) (hlen : es.length ≤ 1000) (hwf : ∀ i, i < es.length → wfE (es.getD i default)) (hdr : I64 draw) (hm : 0 ≤ me ∧ me < 3) (hc : checkE es = 0) (hv : v < -1) :
    Calls Tryz.prog 5 #[.int .i64 me, .agg #[.int .u64 t, .int .i64 v, .slice a es.length cap], .int .i64 clock, .int .i64 draw] w (NilP w) := by
  have mixed : Tryz.prog.follows .mixedOrders = true := by kernel_rfl
  have HW := Lib.hid (bel1 w (.cells #[.int .u64 t, .int .i64 v, .slice a es.length cap] 25))
  have HBL := Lib.hid (heap_alloc_new w (.cells #[.int .u64 t, .int .i64 v, .slice a es.length cap] 25))
  have HSL := Lib.hid (h.below HW.out)
  have HI := Lib.hid (And.intro hlen (And.intro hwf hdr))
  have HCK := Lib.hid (fun W (hb : Below (w.alloc (.cells #[.int .u64 t, .int .i64 v, .slice a es.length cap] 25)).heap.size (w.alloc (.cells #[.int .u64 t, .int .i64 v, .slice a es.length cap] 25)) W) => rcheck_any a cap es W (ents_below HSL.out.ents hb) (by unfold maxLen; omega) hwf)
  have HLA := Lib.hid (fun W (hb : Below (w.alloc (.cells #[.int .u64 t, .int .i64 v, .slice a es.length cap] 25)).heap.size (w.alloc (.cells #[.int .u64 t, .int .i64 v, .slice a es.length cap] 25)) W) => rlast_any a cap es W (ents_below HSL.out.ents hb) (by unfold maxLen; omega))
  have hd0 : decide (me < 0) = false := decide_eq_false (by omega)
  have hd1 : decide (3 ≤ me) = false := decide_eq_false (by omega)
  have hm1 : 0 ≤ me := hm.1
  have hm2 : me < 3 := hm.2
  rw [hc] at HCK
  clear hc
  have hd2 : decide (v < -1) = true := decide_eq_true hv
  clear h hlen hwf hdr
  go_enter Tryz.func5, Tryz.ntmps5
  go_upto_region 1 with fail
  generalize w.alloc (.cells #[.int .u64 t, .int .i64 v, .slice a es.length cap] 25) = Y at *
  generalize hnb : w.heap.size = nb at *
  have HNB := Lib.hid hnb
  clear hnb
  have HC := Lib.hid (show (Cel3 ⟨nb, 0, none⟩ (.int .u64 t) ⟨nb, 1, none⟩ (.int .i64 v) ⟨nb, 2, none⟩ (.slice a es.length cap)) Y from ⟨(cell_of HBL.out 0 rfl).1, (cell_of HBL.out 1 rfl).1, (cell_of HBL.out 2 rfl).1⟩)
  refine wp_region_noPanic ?_
  refine wp_region_lim (Cel3 ⟨nb, 0, none⟩ (.int .u64 t) ⟨nb, 1, none⟩ (.int .i64 v) ⟨nb, 2, none⟩ (.slice a es.length cap)) (fun i => decide (i < 30)) (fun i => false) (by kernel_rfl) (by kernel_rfl) (cel3_bel HC.out (Below.refl _ _).drew) (fun HT hS0 => ?_)
  have HB0 := Lib.hid (show Below Y.heap.size Y Y.drew from (Below.refl _ Y).drew)
  refine tkD HT 0 11 (v := ?_) ?_ ?_
  rotate_left
  · (intro w5 hSw; obtain ⟨q1, q2, q3⟩ := hSw; go_simp; (try with_reducible rfl))
  try simp only [s1, s2, s3]
  refine tkD HT 1 12 (v := ?_) ?_ ?_
  rotate_left
  · (intro w5 hSw; obtain ⟨q1, q2, q3⟩ := hSw; go_simp; (try with_reducible rfl))
  try simp only [s1, s2, s3]
  refine tkD HT 2 13 (v := ?_) ?_ ?_
  rotate_left
  · (intro w5 hSw; obtain ⟨q1, q2, q3⟩ := hSw; go_simp; (try with_reducible rfl))
  try simp only [s1, s2, s3]
  refine tkD HT 3 14 (v := ?_) ?_ ?_
  rotate_left
  · (intro w5 hSw; obtain ⟨q1, q2, q3⟩ := hSw; go_simp; (try with_reducible rfl))
  try simp only [s1, s2, s3]
  refine tkD HT 4 15 (v := ?_) ?_ ?_
  rotate_left
  · (intro w5 hSw; obtain ⟨q1, q2, q3⟩ := hSw; go_simp; (try with_reducible rfl))
  try simp only [s1, s2, s3]
  refine tkD HT 5 16 (v := ?_) ?_ ?_
  rotate_left
  · (intro w5 hSw; obtain ⟨q1, q2, q3⟩ := hSw; go_simp; (try with_reducible rfl))
  try simp only [s1, s2, s3]
  refine tkD HT 6 17 (v := ?_) ?_ ?_
  rotate_left
  · (intro w5 hSw; obtain ⟨q1, q2, q3⟩ := hSw; go_simp; (try with_reducible rfl))
  try simp only [s1, s2, s3]
  refine tkD HT 7 18 (v := ?_) ?_ ?_
  rotate_left
  · (intro w5 hSw; obtain ⟨q1, q2, q3⟩ := hSw; go_simp; (try with_reducible rfl))
  try simp only [s1, s2, s3]
  refine tkD HT 8 19 (v := ?_) ?_ ?_
  rotate_left
  · (intro w5 hSw; obtain ⟨q1, q2, q3⟩ := hSw; go_simp; (try with_reducible rfl))
  try simp only [s1, s2, s3]
  refine tkS 9 (fun K5 hK => ?_)
  go_simp
  go_at_call 15
  refine (HCK.out _ HB0.out).mono ?_
  rintro e w7 ⟨rfl, hb7⟩
  have HB7 := Lib.hid (grew_trans HB0.out hb7)
  clear hb7
  dsimp only
  refine hK.out _ _ (cel3_bel HC.out HB7.out) (fun hS1 => ?_)
  clear hK K5
  try simp only [Act.put, s1, s2, s3]
  refine tkD HT 10 21 (v := ?_) ?_ ?_
  rotate_left
  · (intro w5 hSw; obtain ⟨q1, q2, q3⟩ := hSw; go_simp; (try with_reducible rfl))
  try simp only [s1, s2, s3]
  refine tkD HT 11 22 (v := ?_) ?_ ?_
  rotate_left
  · (intro w5 hSw; obtain ⟨q1, q2, q3⟩ := hSw; go_simp; (try with_reducible rfl))
  try simp only [s1, s2, s3]
  refine tkD HT 12 23 (v := ?_) ?_ ?_
  rotate_left
  · (intro w5 hSw; obtain ⟨q1, q2, q3⟩ := hSw; go_simp; (try with_reducible rfl))
  try simp only [s1, s2, s3]
  refine tkD HT 13 24 (v := ?_) ?_ ?_
  rotate_left
  · (intro w5 hSw; obtain ⟨q1, q2, q3⟩ := hSw; go_simp; (try with_reducible rfl))
  try simp only [s1, s2, s3]
  refine tkD HT 14 25 (v := ?_) ?_ ?_
  rotate_left
  · (intro w5 hSw; obtain ⟨q1, q2, q3⟩ := hSw; go_simp; (try with_reducible rfl))
  try simp only [s1, s2, s3]
  refine tkD HT 15 26 (v := ?_) ?_ ?_
  rotate_left
  · (intro w5 hSw; obtain ⟨q1, q2, q3⟩ := hSw; go_simp; (try with_reducible rfl))
  try simp only [s1, s2, s3]
  refine tkD HT 16 27 (v := ?_) ?_ ?_
  rotate_left
  · (intro w5 hSw; obtain ⟨q1, q2, q3⟩ := hSw; go_simp; (try with_reducible rfl))
  try simp only [s1, s2, s3]
  refine tkD HT 17 28 (v := ?_) ?_ ?_
  rotate_left
  · (intro w5 hSw; obtain ⟨q1, q2, q3⟩ := hSw; go_simp; (try with_reducible rfl))
  try simp only [s1, s2, s3]
  refine tkN HT 18 29 ?_
  try simp only [s1, s2, s3]
  refine tkN HT 19 30 ?_
  try simp only [s1, s2, s3]
  refine tkN HT 20 31 ?_
  try simp only [s1, s2, s3]
  refine tkD HT 21 32 (v := ?_) ?_ ?_
  rotate_left
  · (intro w5 hSw; obtain ⟨q1, q2, q3⟩ := hSw; go_simp; (try with_reducible rfl))
  try simp only [s1, s2, s3]
  refine tkD HT 22 33 (v := ?_) ?_ ?_
  rotate_left
  · (intro w5 hSw; obtain ⟨q1, q2, q3⟩ := hSw; go_simp; (try with_reducible rfl))
  try simp only [s1, s2, s3]
  refine tkN HT 23 34 ?_
  try simp only [s1, s2, s3]
  refine tkN HT 24 35 ?_
  try simp only [s1, s2, s3]
  refine tkN HT 25 36 ?_
  try simp only [s1, s2, s3]
  refine tkN HT 26 37 ?_
  try simp only [s1, s2, s3]
  refine tkN HT 27 38 ?_
  try simp only [s1, s2, s3]
  refine tkN HT 28 39 ?_
  try simp only [s1, s2, s3]
  refine tkD HT 29 40 (v := ?_) ?_ ?_
  rotate_left
  · (intro w5 hSw; obtain ⟨q1, q2, q3⟩ := hSw; go_simp; (try with_reducible rfl))
  try simp only [s1, s2, s3]
  refine wpAnyM_done (by kernel_rfl) (NoPanic.normal ?_)
  go_wp2
  go_ret
  have hs : nb ≤ Y.heap.size := by have := HW.out.size; have := HNB.out; omega
  unfold NilP
  rw [HNB.out]
  exact ⟨rfl, HW.out.trans (HB7.out.mono hs)⟩
set_option linter.unusedSimpArgs false in
set_option linter.unusedVariables false in
set_option maxHeartbeats 8000000 in
set_option maxRecDepth 100000 in
theorem rnew_E (h : Sl w a cap es) (hlen : es.length ≤ 1000) (hwf : ∀ i, i < es.length → wfE (es.getD i default)) (hdr : I64 draw) (hm : 0 ≤ me ∧ me < 3) (hc : checkE es = 0) (hv : 3 ≤ v) :
    Calls Tryz.prog 5 #[.int .i64 me, .agg #[.int .u64 t, .int .i64 v, .slice a es.length cap], .int .i64 clock, .int .i64 draw] w (NilP w) := by
  have mixed : Tryz.prog.follows .mixedOrders = true := by kernel_rfl
  have HW := Lib.hid (bel1 w (.cells #[.int .u64 t, .int .i64 v, .slice a es.length cap] 25))
  have HBL := Lib.hid (heap_alloc_new w (.cells #[.int .u64 t, .int .i64 v, .slice a es.length cap] 25))
  have HSL := Lib.hid (h.below HW.out)
  have HI := Lib.hid (And.intro hlen (And.intro hwf hdr))
  have HCK := Lib.hid (fun W (hb : Below (w.alloc (.cells #[.int .u64 t, .int .i64 v, .slice a es.length cap] 25)).heap.size (w.alloc (.cells #[.int .u64 t, .int .i64 v, .slice a es.length cap] 25)) W) => rcheck_any a cap es W (ents_below HSL.out.ents hb) (by unfold maxLen; omega) hwf)
  have HLA := Lib.hid (fun W (hb : Below (w.alloc (.cells #[.int .u64 t, .int .i64 v, .slice a es.length cap] 25)).heap.size (w.alloc (.cells #[.int .u64 t, .int .i64 v, .slice a es.length cap] 25)) W) => rlast_any a cap es W (ents_below HSL.out.ents hb) (by unfold maxLen; omega))
  have hd0 : decide (me < 0) = false := decide_eq_false (by omega)
  have hd1 : decide (3 ≤ me) = false := decide_eq_false (by omega)
  have hm1 : 0 ≤ me := hm.1
  have hm2 : me < 3 := hm.2
  rw [hc] at HCK
  clear hc
  have hv1 : -1 ≤ v := by omega
  have hd2 : decide (v < -1) = false := decide_eq_false (by omega)
  have hd3 : decide (3 ≤ v) = true := decide_eq_true hv
  clear h hlen hwf hdr
  go_enter Tryz.func5, Tryz.ntmps5
  go_upto_region 1 with fail
  generalize w.alloc (.cells #[.int .u64 t, .int .i64 v, .slice a es.length cap] 25) = Y at *
  generalize hnb : w.heap.size = nb at *
  have HNB := Lib.hid hnb
  clear hnb
  have HC := Lib.hid (show (Cel3 ⟨nb, 0, none⟩ (.int .u64 t) ⟨nb, 1, none⟩ (.int .i64 v) ⟨nb, 2, none⟩ (.slice a es.length cap)) Y from ⟨(cell_of HBL.out 0 rfl).1, (cell_of HBL.out 1 rfl).1, (cell_of HBL.out 2 rfl).1⟩)
  refine wp_region_noPanic ?_
  refine wp_region_lim (Cel3 ⟨nb, 0, none⟩ (.int .u64 t) ⟨nb, 1, none⟩ (.int .i64 v) ⟨nb, 2, none⟩ (.slice a es.length cap)) (fun i => decide (i < 30)) (fun i => false) (by kernel_rfl) (by kernel_rfl) (cel3_bel HC.out (Below.refl _ _).drew) (fun HT hS0 => ?_)
  have HB0 := Lib.hid (show Below Y.heap.size Y Y.drew from (Below.refl _ Y).drew)
  refine tkD HT 0 11 (v := ?_) ?_ ?_
  rotate_left
  · (intro w5 hSw; obtain ⟨q1, q2, q3⟩ := hSw; go_simp; (try with_reducible rfl))
  try simp only [s1, s2, s3]
  refine tkD HT 1 12 (v := ?_) ?_ ?_
  rotate_left
  · (intro w5 hSw; obtain ⟨q1, q2, q3⟩ := hSw; go_simp; (try with_reducible rfl))
  try simp only [s1, s2, s3]
  refine tkD HT 2 13 (v := ?_) ?_ ?_
  rotate_left
  · (intro w5 hSw; obtain ⟨q1, q2, q3⟩ := hSw; go_simp; (try with_reducible rfl))
  try simp only [s1, s2, s3]
  refine tkD HT 3 14 (v := ?_) ?_ ?_
  rotate_left
  · (intro w5 hSw; obtain ⟨q1, q2, q3⟩ := hSw; go_simp; (try with_reducible rfl))
  try simp only [s1, s2, s3]
  refine tkD HT 4 15 (v := ?_) ?_ ?_
  rotate_left
  · (intro w5 hSw; obtain ⟨q1, q2, q3⟩ := hSw; go_simp; (try with_reducible rfl))
  try simp only [s1, s2, s3]
  refine tkD HT 5 16 (v := ?_) ?_ ?_
  rotate_left
  · (intro w5 hSw; obtain ⟨q1, q2, q3⟩ := hSw; go_simp; (try with_reducible rfl))
  try simp only [s1, s2, s3]
  refine tkD HT 6 17 (v := ?_) ?_ ?_
  rotate_left
  · (intro w5 hSw; obtain ⟨q1, q2, q3⟩ := hSw; go_simp; (try with_reducible rfl))
  try simp only [s1, s2, s3]
  refine tkD HT 7 18 (v := ?_) ?_ ?_
  rotate_left
  · (intro w5 hSw; obtain ⟨q1, q2, q3⟩ := hSw; go_simp; (try with_reducible rfl))
  try simp only [s1, s2, s3]
  refine tkD HT 8 19 (v := ?_) ?_ ?_
  rotate_left
  · (intro w5 hSw; obtain ⟨q1, q2, q3⟩ := hSw; go_simp; (try with_reducible rfl))
  try simp only [s1, s2, s3]
  refine tkS 9 (fun K5 hK => ?_)
  go_simp
  go_at_call 15
  refine (HCK.out _ HB0.out).mono ?_
  rintro e w7 ⟨rfl, hb7⟩
  have HB7 := Lib.hid (grew_trans HB0.out hb7)
  clear hb7
  dsimp only
  refine hK.out _ _ (cel3_bel HC.out HB7.out) (fun hS1 => ?_)
  clear hK K5
  try simp only [Act.put, s1, s2, s3]
  refine tkD HT 10 21 (v := ?_) ?_ ?_
  rotate_left
  · (intro w5 hSw; obtain ⟨q1, q2, q3⟩ := hSw; go_simp; (try with_reducible rfl))
  try simp only [s1, s2, s3]
  refine tkD HT 11 22 (v := ?_) ?_ ?_
  rotate_left
  · (intro w5 hSw; obtain ⟨q1, q2, q3⟩ := hSw; go_simp; (try with_reducible rfl))
  try simp only [s1, s2, s3]
  refine tkD HT 12 23 (v := ?_) ?_ ?_
  rotate_left
  · (intro w5 hSw; obtain ⟨q1, q2, q3⟩ := hSw; go_simp; (try with_reducible rfl))
  try simp only [s1, s2, s3]
  refine tkD HT 13 24 (v := ?_) ?_ ?_
  rotate_left
  · (intro w5 hSw; obtain ⟨q1, q2, q3⟩ := hSw; go_simp; (try with_reducible rfl))
  try simp only [s1, s2, s3]
  refine tkD HT 14 25 (v := ?_) ?_ ?_
  rotate_left
  · (intro w5 hSw; obtain ⟨q1, q2, q3⟩ := hSw; go_simp; (try with_reducible rfl))
  try simp only [s1, s2, s3]
  refine tkD HT 15 26 (v := ?_) ?_ ?_
  rotate_left
  · (intro w5 hSw; obtain ⟨q1, q2, q3⟩ := hSw; go_simp; (try with_reducible rfl))
  try simp only [s1, s2, s3]
  refine tkD HT 16 27 (v := ?_) ?_ ?_
  rotate_left
  · (intro w5 hSw; obtain ⟨q1, q2, q3⟩ := hSw; go_simp; (try with_reducible rfl))
  try simp only [s1, s2, s3]
  refine tkD HT 17 28 (v := ?_) ?_ ?_
  rotate_left
  · (intro w5 hSw; obtain ⟨q1, q2, q3⟩ := hSw; go_simp; (try with_reducible rfl))
  try simp only [s1, s2, s3]
  refine tkD HT 18 29 (v := ?_) ?_ ?_
  rotate_left
  · (intro w5 hSw; obtain ⟨q1, q2, q3⟩ := hSw; go_simp; (try with_reducible rfl))
  try simp only [s1, s2, s3]
  refine tkD HT 19 30 (v := ?_) ?_ ?_
  rotate_left
  · (intro w5 hSw; obtain ⟨q1, q2, q3⟩ := hSw; go_simp; (try with_reducible rfl))
  try simp only [s1, s2, s3]
  refine tkD HT 20 31 (v := ?_) ?_ ?_
  rotate_left
  · (intro w5 hSw; obtain ⟨q1, q2, q3⟩ := hSw; go_simp; (try with_reducible rfl))
  try simp only [s1, s2, s3]
  refine tkD HT 21 32 (v := ?_) ?_ ?_
  rotate_left
  · (intro w5 hSw; obtain ⟨q1, q2, q3⟩ := hSw; go_simp; (try with_reducible rfl))
  try simp only [s1, s2, s3]
  refine tkD HT 22 33 (v := ?_) ?_ ?_
  rotate_left
  · (intro w5 hSw; obtain ⟨q1, q2, q3⟩ := hSw; go_simp; (try with_reducible rfl))
  try simp only [s1, s2, s3]
  refine tkN HT 23 34 ?_
  try simp only [s1, s2, s3]
  refine tkN HT 24 35 ?_
  try simp only [s1, s2, s3]
  refine tkN HT 25 36 ?_
  try simp only [s1, s2, s3]
  refine tkN HT 26 37 ?_
  try simp only [s1, s2, s3]
  refine tkN HT 27 38 ?_
  try simp only [s1, s2, s3]
  refine tkN HT 28 39 ?_
  try simp only [s1, s2, s3]
  refine tkD HT 29 40 (v := ?_) ?_ ?_
  rotate_left
  · (intro w5 hSw; obtain ⟨q1, q2, q3⟩ := hSw; go_simp; (try with_reducible rfl))
  try simp only [s1, s2, s3]
  refine wpAnyM_done (by kernel_rfl) (NoPanic.normal ?_)
  go_wp2
  go_ret
  have hs : nb ≤ Y.heap.size := by have := HW.out.size; have := HNB.out; omega
  unfold NilP
  rw [HNB.out]
  exact ⟨rfl, HW.out.trans (HB7.out.mono hs)⟩
set_option linter.unusedSimpArgs false in
set_option linter.unusedVariables false in
set_option maxHeartbeats 8000000 in
set_option maxRecDepth 100000 in
theorem rnew_F (h : Sl w a cap es) (hlen : es.length ≤ 1000) (hwf : ∀ i, i < es.length → wfE (es.getD i default)) (hdr : I64 draw) (hm : 0 ≤ me ∧ me < 3) (hc : checkE es = 0) (hv : -1 ≤ v ∧ v < 3) (ht : t < lastT es) :
    Calls Tryz.prog 5 #[.int .i64 me, .agg #[.int .u64 t, .int .i64 v, .slice a es.length cap], .int .i64 clock, .int .i64 draw] w (NilP w) := by
  have mixed : Tryz.prog.follows .mixedOrders = true := by kernel_rfl
  have HW := Lib.hid (bel1 w (.cells #[.int .u64 t, .int .i64 v, .slice a es.length cap] 25))
  have HBL := Lib.hid (heap_alloc_new w (.cells #[.int .u64 t, .int .i64 v, .slice a es.length cap] 25))
  have HSL := Lib.hid (h.below HW.out)
  have HI := Lib.hid (And.intro hlen (And.intro hwf hdr))
  have HCK := Lib.hid (fun W (hb : Below (w.alloc (.cells #[.int .u64 t, .int .i64 v, .slice a es.length cap] 25)).heap.size (w.alloc (.cells #[.int .u64 t, .int .i64 v, .slice a es.length cap] 25)) W) => rcheck_any a cap es W (ents_below HSL.out.ents hb) (by unfold maxLen; omega) hwf)
  have HLA := Lib.hid (fun W (hb : Below (w.alloc (.cells #[.int .u64 t, .int .i64 v, .slice a es.length cap] 25)).heap.size (w.alloc (.cells #[.int .u64 t, .int .i64 v, .slice a es.length cap] 25)) W) => rlast_any a cap es W (ents_below HSL.out.ents hb) (by unfold maxLen; omega))
  have hd0 : decide (me < 0) = false := decide_eq_false (by omega)
  have hd1 : decide (3 ≤ me) = false := decide_eq_false (by omega)
  have hm1 : 0 ≤ me := hm.1
  have hm2 : me < 3 := hm.2
  rw [hc] at HCK
  clear hc
  have hd2 : decide (v < -1) = false := decide_eq_false (by omega)
  have hd3 : decide (3 ≤ v) = false := decide_eq_false (by omega)
  have hv1 : -1 ≤ v := by omega
  have hv2 : v < 3 := by omega
  obtain ⟨lt, hlt⟩ : ∃ lt, lt = lastT es := ⟨_, rfl⟩
  rw [← hlt] at ht HLA
  have htb : decide (t < lt) = true := decide_eq_true ht
  clear hlt
  clear h hlen hwf hdr
  go_enter Tryz.func5, Tryz.ntmps5
  go_upto_region 1 with fail
  generalize w.alloc (.cells #[.int .u64 t, .int .i64 v, .slice a es.length cap] 25) = Y at *
  generalize hnb : w.heap.size = nb at *
  have HNB := Lib.hid hnb
  clear hnb
  have HC := Lib.hid (show (Cel3 ⟨nb, 0, none⟩ (.int .u64 t) ⟨nb, 1, none⟩ (.int .i64 v) ⟨nb, 2, none⟩ (.slice a es.length cap)) Y from ⟨(cell_of HBL.out 0 rfl).1, (cell_of HBL.out 1 rfl).1, (cell_of HBL.out 2 rfl).1⟩)
  refine wp_region_noPanic ?_
  refine wp_region_lim (Cel3 ⟨nb, 0, none⟩ (.int .u64 t) ⟨nb, 1, none⟩ (.int .i64 v) ⟨nb, 2, none⟩ (.slice a es.length cap)) (fun i => decide (i < 30)) (fun i => false) (by kernel_rfl) (by kernel_rfl) (cel3_bel HC.out (Below.refl _ _).drew) (fun HT hS0 => ?_)
  have HB0 := Lib.hid (show Below Y.heap.size Y Y.drew from (Below.refl _ Y).drew)
  refine tkD HT 0 11 (v := ?_) ?_ ?_
  rotate_left
  · (intro w5 hSw; obtain ⟨q1, q2, q3⟩ := hSw; go_simp; (try with_reducible rfl))
  try simp only [s1, s2, s3]
  refine tkD HT 1 12 (v := ?_) ?_ ?_
  rotate_left
  · (intro w5 hSw; obtain ⟨q1, q2, q3⟩ := hSw; go_simp; (try with_reducible rfl))
  try simp only [s1, s2, s3]
  refine tkD HT 2 13 (v := ?_) ?_ ?_
  rotate_left
  · (intro w5 hSw; obtain ⟨q1, q2, q3⟩ := hSw; go_simp; (try with_reducible rfl))
  try simp only [s1, s2, s3]
  refine tkD HT 3 14 (v := ?_) ?_ ?_
  rotate_left
  · (intro w5 hSw; obtain ⟨q1, q2, q3⟩ := hSw; go_simp; (try with_reducible rfl))
  try simp only [s1, s2, s3]
  refine tkD HT 4 15 (v := ?_) ?_ ?_
  rotate_left
  · (intro w5 hSw; obtain ⟨q1, q2, q3⟩ := hSw; go_simp; (try with_reducible rfl))
  try simp only [s1, s2, s3]
  refine tkD HT 5 16 (v := ?_) ?_ ?_
  rotate_left
  · (intro w5 hSw; obtain ⟨q1, q2, q3⟩ := hSw; go_simp; (try with_reducible rfl))
  try simp only [s1, s2, s3]
  refine tkD HT 6 17 (v := ?_) ?_ ?_
  rotate_left
  · (intro w5 hSw; obtain ⟨q1, q2, q3⟩ := hSw; go_simp; (try with_reducible rfl))
  try simp only [s1, s2, s3]
  refine tkD HT 7 18 (v := ?_) ?_ ?_
  rotate_left
  · (intro w5 hSw; obtain ⟨q1, q2, q3⟩ := hSw; go_simp; (try with_reducible rfl))
  try simp only [s1, s2, s3]
  refine tkD HT 8 19 (v := ?_) ?_ ?_
  rotate_left
  · (intro w5 hSw; obtain ⟨q1, q2, q3⟩ := hSw; go_simp; (try with_reducible rfl))
  try simp only [s1, s2, s3]
  refine tkS 9 (fun K5 hK => ?_)
  go_simp
  go_at_call 15
  refine (HCK.out _ HB0.out).mono ?_
  rintro e w7 ⟨rfl, hb7⟩
  have HB7 := Lib.hid (grew_trans HB0.out hb7)
  clear hb7
  dsimp only
  refine hK.out _ _ (cel3_bel HC.out HB7.out) (fun hS1 => ?_)
  clear hK K5
  try simp only [Act.put, s1, s2, s3]
  refine tkD HT 10 21 (v := ?_) ?_ ?_
  rotate_left
  · (intro w5 hSw; obtain ⟨q1, q2, q3⟩ := hSw; go_simp; (try with_reducible rfl))
  try simp only [s1, s2, s3]
  refine tkD HT 11 22 (v := ?_) ?_ ?_
  rotate_left
  · (intro w5 hSw; obtain ⟨q1, q2, q3⟩ := hSw; go_simp; (try with_reducible rfl))
  try simp only [s1, s2, s3]
  refine tkD HT 12 23 (v := ?_) ?_ ?_
  rotate_left
  · (intro w5 hSw; obtain ⟨q1, q2, q3⟩ := hSw; go_simp; (try with_reducible rfl))
  try simp only [s1, s2, s3]
  refine tkD HT 13 24 (v := ?_) ?_ ?_
  rotate_left
  · (intro w5 hSw; obtain ⟨q1, q2, q3⟩ := hSw; go_simp; (try with_reducible rfl))
  try simp only [s1, s2, s3]
  refine tkD HT 14 25 (v := ?_) ?_ ?_
  rotate_left
  · (intro w5 hSw; obtain ⟨q1, q2, q3⟩ := hSw; go_simp; (try with_reducible rfl))
  try simp only [s1, s2, s3]
  refine tkD HT 15 26 (v := ?_) ?_ ?_
  rotate_left
  · (intro w5 hSw; obtain ⟨q1, q2, q3⟩ := hSw; go_simp; (try with_reducible rfl))
  try simp only [s1, s2, s3]
  refine tkD HT 16 27 (v := ?_) ?_ ?_
  rotate_left
  · (intro w5 hSw; obtain ⟨q1, q2, q3⟩ := hSw; go_simp; (try with_reducible rfl))
  try simp only [s1, s2, s3]
  refine tkD HT 17 28 (v := ?_) ?_ ?_
  rotate_left
  · (intro w5 hSw; obtain ⟨q1, q2, q3⟩ := hSw; go_simp; (try with_reducible rfl))
  try simp only [s1, s2, s3]
  refine tkD HT 18 29 (v := ?_) ?_ ?_
  rotate_left
  · (intro w5 hSw; obtain ⟨q1, q2, q3⟩ := hSw; go_simp; (try with_reducible rfl))
  try simp only [s1, s2, s3]
  refine tkD HT 19 30 (v := ?_) ?_ ?_
  rotate_left
  · (intro w5 hSw; obtain ⟨q1, q2, q3⟩ := hSw; go_simp; (try with_reducible rfl))
  try simp only [s1, s2, s3]
  refine tkD HT 20 31 (v := ?_) ?_ ?_
  rotate_left
  · (intro w5 hSw; obtain ⟨q1, q2, q3⟩ := hSw; go_simp; (try with_reducible rfl))
  try simp only [s1, s2, s3]
  refine tkD HT 21 32 (v := ?_) ?_ ?_
  rotate_left
  · (intro w5 hSw; obtain ⟨q1, q2, q3⟩ := hSw; go_simp; (try with_reducible rfl))
  try simp only [s1, s2, s3]
  refine tkD HT 22 33 (v := ?_) ?_ ?_
  rotate_left
  · (intro w5 hSw; obtain ⟨q1, q2, q3⟩ := hSw; go_simp; (try with_reducible rfl))
  try simp only [s1, s2, s3]
  refine tkD HT 23 34 (v := ?_) ?_ ?_
  rotate_left
  · (intro w5 hSw; obtain ⟨q1, q2, q3⟩ := hSw; go_simp; (try with_reducible rfl))
  try simp only [s1, s2, s3]
  refine tkD HT 24 35 (v := ?_) ?_ ?_
  rotate_left
  · (intro w5 hSw; obtain ⟨q1, q2, q3⟩ := hSw; go_simp; (try with_reducible rfl))
  try simp only [s1, s2, s3]
  refine tkD HT 25 36 (v := ?_) ?_ ?_
  rotate_left
  · (intro w5 hSw; obtain ⟨q1, q2, q3⟩ := hSw; go_simp; (try with_reducible rfl))
  try simp only [s1, s2, s3]
  refine tkD HT 26 37 (v := ?_) ?_ ?_
  rotate_left
  · (intro w5 hSw; obtain ⟨q1, q2, q3⟩ := hSw; go_simp; (try with_reducible rfl))
  try simp only [s1, s2, s3]
  refine tkS 27 (fun K5 hK => ?_)
  go_simp
  go_at_call 16
  refine (HLA.out _ HB7.out).mono ?_
  rintro e w6 ⟨rfl, rfl⟩
  dsimp only
  refine hK.out _ _ (cel3_bel HC.out HB7.out) (fun hS1 => ?_)
  clear hK K5
  try simp only [Act.put, s1, s2, s3]
  refine tkD HT 28 39 (v := ?_) ?_ ?_
  rotate_left
  · (intro w5 hSw; obtain ⟨q1, q2, q3⟩ := hSw; go_simp; (try with_reducible rfl))
  try simp only [s1, s2, s3]
  refine tkD HT 29 40 (v := ?_) ?_ ?_
  rotate_left
  · (intro w5 hSw; obtain ⟨q1, q2, q3⟩ := hSw; go_simp; (try with_reducible rfl))
  try simp only [s1, s2, s3]
  refine wpAnyM_done (by kernel_rfl) (NoPanic.normal ?_)
  go_wp2
  go_ret
  have hs : nb ≤ Y.heap.size := by have := HW.out.size; have := HNB.out; omega
  unfold NilP
  rw [HNB.out]
  exact ⟨rfl, HW.out.trans (HB7.out.mono hs)⟩
set_option linter.unusedSimpArgs false in
set_option linter.unusedVariables false in
set_option maxHeartbeats 8000000 in
set_option maxRecDepth 100000 in
theorem rnew_ok (h : Sl w a cap es) (hlen : es.length ≤ 1000) (hwf : ∀ i, i < es.length → wfE (es.getD i default)) (hdr : I64 draw) (hm : 0 ≤ me ∧ me < 3) (hc : checkE es = 0) (hv : -1 ≤ v ∧ v < 3) (ht : lastT es ≤ t) :
    Calls Tryz.prog 5 #[.int .i64 me, .agg #[.int .u64 t, .int .i64 v, .slice a es.length cap], .int .i64 clock, .int .i64 draw] w (RNewP (newC me t v es clock draw) w) := by
  have mixed : Tryz.prog.follows .mixedOrders = true := by kernel_rfl
  have HW := Lib.hid (bel1 w (.cells #[.int .u64 t, .int .i64 v, .slice a es.length cap] 25))
  have HBL := Lib.hid (heap_alloc_new w (.cells #[.int .u64 t, .int .i64 v, .slice a es.length cap] 25))
  have HSL := Lib.hid (h.below HW.out)
  have HI := Lib.hid (And.intro hlen (And.intro hwf hdr))
  have HCK := Lib.hid (fun W (hb : Below (w.alloc (.cells #[.int .u64 t, .int .i64 v, .slice a es.length cap] 25)).heap.size (w.alloc (.cells #[.int .u64 t, .int .i64 v, .slice a es.length cap] 25)) W) => rcheck_any a cap es W (ents_below HSL.out.ents hb) (by unfold maxLen; omega) hwf)
  have HLA := Lib.hid (fun W (hb : Below (w.alloc (.cells #[.int .u64 t, .int .i64 v, .slice a es.length cap] 25)).heap.size (w.alloc (.cells #[.int .u64 t, .int .i64 v, .slice a es.length cap] 25)) W) => rlast_any a cap es W (ents_below HSL.out.ents hb) (by unfold maxLen; omega))
  have hd0 : decide (me < 0) = false := decide_eq_false (by omega)
  have hd1 : decide (3 ≤ me) = false := decide_eq_false (by omega)
  have hm1 : 0 ≤ me := hm.1
  have hm2 : me < 3 := hm.2
  rw [hc] at HCK
  clear hc
  have hd2 : decide (v < -1) = false := decide_eq_false (by omega)
  have hd3 : decide (3 ≤ v) = false := decide_eq_false (by omega)
  have hv1 : -1 ≤ v := by omega
  have hv2 : v < 3 := by omega
  obtain ⟨lt, hlt⟩ : ∃ lt, lt = lastT es := ⟨_, rfl⟩
  rw [← hlt] at ht HLA
  have htb : decide (t < lt) = false := decide_eq_false (by omega)
  clear hlt
  have hlen2 := hlen
  have HTO := Lib.hid (fun W => rtimeout_any draw W hdr.1 hdr.2)
  clear h hlen hwf hdr
  go_enter Tryz.func5, Tryz.ntmps5
  go_upto_region 1 with fail
  generalize w.alloc (.cells #[.int .u64 t, .int .i64 v, .slice a es.length cap] 25) = Y at *
  generalize hnb : w.heap.size = nb at *
  have HNB := Lib.hid hnb
  clear hnb
  have HC := Lib.hid (show (Cel3 ⟨nb, 0, none⟩ (.int .u64 t) ⟨nb, 1, none⟩ (.int .i64 v) ⟨nb, 2, none⟩ (.slice a es.length cap)) Y from ⟨(cell_of HBL.out 0 rfl).1, (cell_of HBL.out 1 rfl).1, (cell_of HBL.out 2 rfl).1⟩)
  refine wp_region_noPanic ?_
  refine wp_region_lim (Cel3 ⟨nb, 0, none⟩ (.int .u64 t) ⟨nb, 1, none⟩ (.int .i64 v) ⟨nb, 2, none⟩ (.slice a es.length cap)) (fun i => decide (i < 30)) (fun i => false) (by kernel_rfl) (by kernel_rfl) (cel3_bel HC.out (Below.refl _ _).drew) (fun HT hS0 => ?_)
  have HB0 := Lib.hid (show Below Y.heap.size Y Y.drew from (Below.refl _ Y).drew)
  refine tkD HT 0 11 (v := ?_) ?_ ?_
  rotate_left
  · (intro w5 hSw; obtain ⟨q1, q2, q3⟩ := hSw; go_simp; (try with_reducible rfl))
  try simp only [s1, s2, s3]
  refine tkD HT 1 12 (v := ?_) ?_ ?_
  rotate_left
  · (intro w5 hSw; obtain ⟨q1, q2, q3⟩ := hSw; go_simp; (try with_reducible rfl))
  try simp only [s1, s2, s3]
  refine tkD HT 2 13 (v := ?_) ?_ ?_
  rotate_left
  · (intro w5 hSw; obtain ⟨q1, q2, q3⟩ := hSw; go_simp; (try with_reducible rfl))
  try simp only [s1, s2, s3]
  refine tkD HT 3 14 (v := ?_) ?_ ?_
  rotate_left
  · (intro w5 hSw; obtain ⟨q1, q2, q3⟩ := hSw; go_simp; (try with_reducible rfl))
  try simp only [s1, s2, s3]
  refine tkD HT 4 15 (v := ?_) ?_ ?_
  rotate_left
  · (intro w5 hSw; obtain ⟨q1, q2, q3⟩ := hSw; go_simp; (try with_reducible rfl))
  try simp only [s1, s2, s3]
  refine tkD HT 5 16 (v := ?_) ?_ ?_
  rotate_left
  · (intro w5 hSw; obtain ⟨q1, q2, q3⟩ := hSw; go_simp; (try with_reducible rfl))
  try simp only [s1, s2, s3]
  refine tkD HT 6 17 (v := ?_) ?_ ?_
  rotate_left
  · (intro w5 hSw; obtain ⟨q1, q2, q3⟩ := hSw; go_simp; (try with_reducible rfl))
  try simp only [s1, s2, s3]
  refine tkD HT 7 18 (v := ?_) ?_ ?_
  rotate_left
  · (intro w5 hSw; obtain ⟨q1, q2, q3⟩ := hSw; go_simp; (try with_reducible rfl))
  try simp only [s1, s2, s3]
  refine tkD HT 8 19 (v := ?_) ?_ ?_
  rotate_left
  · (intro w5 hSw; obtain ⟨q1, q2, q3⟩ := hSw; go_simp; (try with_reducible rfl))
  try simp only [s1, s2, s3]
  refine tkS 9 (fun K5 hK => ?_)
  go_simp
  go_at_call 15
  refine (HCK.out _ HB0.out).mono ?_
  rintro e w7 ⟨rfl, hb7⟩
  have HB7 := Lib.hid (grew_trans HB0.out hb7)
  clear hb7
  dsimp only
  refine hK.out _ _ (cel3_bel HC.out HB7.out) (fun hS1 => ?_)
  clear hK K5
  try simp only [Act.put, s1, s2, s3]
  refine tkD HT 10 21 (v := ?_) ?_ ?_
  rotate_left
  · (intro w5 hSw; obtain ⟨q1, q2, q3⟩ := hSw; go_simp; (try with_reducible rfl))
  try simp only [s1, s2, s3]
  refine tkD HT 11 22 (v := ?_) ?_ ?_
  rotate_left
  · (intro w5 hSw; obtain ⟨q1, q2, q3⟩ := hSw; go_simp; (try with_reducible rfl))
  try simp only [s1, s2, s3]
  refine tkD HT 12 23 (v := ?_) ?_ ?_
  rotate_left
  · (intro w5 hSw; obtain ⟨q1, q2, q3⟩ := hSw; go_simp; (try with_reducible rfl))
  try simp only [s1, s2, s3]
  refine tkD HT 13 24 (v := ?_) ?_ ?_
  rotate_left
  · (intro w5 hSw; obtain ⟨q1, q2, q3⟩ := hSw; go_simp; (try with_reducible rfl))
  try simp only [s1, s2, s3]
  refine tkD HT 14 25 (v := ?_) ?_ ?_
  rotate_left
  · (intro w5 hSw; obtain ⟨q1, q2, q3⟩ := hSw; go_simp; (try with_reducible rfl))
  try simp only [s1, s2, s3]
  refine tkD HT 15 26 (v := ?_) ?_ ?_
  rotate_left
  · (intro w5 hSw; obtain ⟨q1, q2, q3⟩ := hSw; go_simp; (try with_reducible rfl))
  try simp only [s1, s2, s3]
  refine tkD HT 16 27 (v := ?_) ?_ ?_
  rotate_left
  · (intro w5 hSw; obtain ⟨q1, q2, q3⟩ := hSw; go_simp; (try with_reducible rfl))
  try simp only [s1, s2, s3]
  refine tkD HT 17 28 (v := ?_) ?_ ?_
  rotate_left
  · (intro w5 hSw; obtain ⟨q1, q2, q3⟩ := hSw; go_simp; (try with_reducible rfl))
  try simp only [s1, s2, s3]
  refine tkD HT 18 29 (v := ?_) ?_ ?_
  rotate_left
  · (intro w5 hSw; obtain ⟨q1, q2, q3⟩ := hSw; go_simp; (try with_reducible rfl))
  try simp only [s1, s2, s3]
  refine tkD HT 19 30 (v := ?_) ?_ ?_
  rotate_left
  · (intro w5 hSw; obtain ⟨q1, q2, q3⟩ := hSw; go_simp; (try with_reducible rfl))
  try simp only [s1, s2, s3]
  refine tkD HT 20 31 (v := ?_) ?_ ?_
  rotate_left
  · (intro w5 hSw; obtain ⟨q1, q2, q3⟩ := hSw; go_simp; (try with_reducible rfl))
  try simp only [s1, s2, s3]
  refine tkD HT 21 32 (v := ?_) ?_ ?_
  rotate_left
  · (intro w5 hSw; obtain ⟨q1, q2, q3⟩ := hSw; go_simp; (try with_reducible rfl))
  try simp only [s1, s2, s3]
  refine tkD HT 22 33 (v := ?_) ?_ ?_
  rotate_left
  · (intro w5 hSw; obtain ⟨q1, q2, q3⟩ := hSw; go_simp; (try with_reducible rfl))
  try simp only [s1, s2, s3]
  refine tkD HT 23 34 (v := ?_) ?_ ?_
  rotate_left
  · (intro w5 hSw; obtain ⟨q1, q2, q3⟩ := hSw; go_simp; (try with_reducible rfl))
  try simp only [s1, s2, s3]
  refine tkD HT 24 35 (v := ?_) ?_ ?_
  rotate_left
  · (intro w5 hSw; obtain ⟨q1, q2, q3⟩ := hSw; go_simp; (try with_reducible rfl))
  try simp only [s1, s2, s3]
  refine tkD HT 25 36 (v := ?_) ?_ ?_
  rotate_left
  · (intro w5 hSw; obtain ⟨q1, q2, q3⟩ := hSw; go_simp; (try with_reducible rfl))
  try simp only [s1, s2, s3]
  refine tkD HT 26 37 (v := ?_) ?_ ?_
  rotate_left
  · (intro w5 hSw; obtain ⟨q1, q2, q3⟩ := hSw; go_simp; (try with_reducible rfl))
  try simp only [s1, s2, s3]
  refine tkS 27 (fun K5 hK => ?_)
  go_simp
  go_at_call 16
  refine (HLA.out _ HB7.out).mono ?_
  rintro e w6 ⟨rfl, rfl⟩
  dsimp only
  refine hK.out _ _ (cel3_bel HC.out HB7.out) (fun hS1 => ?_)
  clear hK K5
  try simp only [Act.put, s1, s2, s3]
  refine tkD HT 28 39 (v := ?_) ?_ ?_
  rotate_left
  · (intro w5 hSw; obtain ⟨q1, q2, q3⟩ := hSw; go_simp; (try with_reducible rfl))
  try simp only [s1, s2, s3]
  refine tkD HT 29 40 (v := ?_) ?_ ?_
  rotate_left
  · (intro w5 hSw; obtain ⟨q1, q2, q3⟩ := hSw; go_simp; (try with_reducible rfl))
  try simp only [s1, s2, s3]
  refine wpAnyM_done (by kernel_rfl) (NoPanic.normal ?_)
  have HBX := Lib.hid HB7.out
  have hbm := blk_below HBL.out HB7.out
  clear hS0 hS1 HT
  go_upto_region 3 with fail
  refine wp_region_noPanic ?_
  refine wp_region_lim (BelS w7) (fun i => decide (i < 8)) (fun i => false) (by kernel_rfl) (by kernel_rfl) (Below.refl _ w7).drew (fun HT hS0 => ?_)
  refine tkD HT 0 41 (v := ?_) ?_ ?_
  rotate_left
  · (intro w5 hSw; go_simp; (try with_reducible rfl))
  try simp only [s1, s2, s3]
  refine tkD HT 1 42 (v := ?_) ?_ ?_
  rotate_left
  · (intro w5 hSw; have q4 := blk_below hbm hSw; refine exec_load_row 25 (.tmp 5) ?_ nb ?_ 25 _ (0, 0) _ q4 Tryz.underlying25 rfl ?_; rfl; rfl; kernel_rfl)
  try simp only [s1, s2, s3]
  refine tkD HT 2 43 (v := ?_) ?_ ?_
  rotate_left
  · (intro w5 hSw; go_simp; (try with_reducible rfl))
  try simp only [s1, s2, s3]
  refine tkD HT 3 44 (v := ?_) ?_ ?_
  rotate_left
  · (intro w5 hSw; go_simp; (try with_reducible rfl))
  try simp only [s1, s2, s3]
  refine tkD HT 4 45 (v := ?_) ?_ ?_
  rotate_left
  · (intro w5 hSw; go_simp; (try with_reducible rfl))
  try simp only [s1, s2, s3]
  refine tkD HT 6 47 (v := ?_) ?_ ?_
  rotate_left
  · (intro w5 hSw; go_simp; (try with_reducible rfl))
  try simp only [s1, s2, s3]
  refine tkS 5 (fun K5 hK => ?_)
  go_simp
  go_at_call 17
  refine (HTO.out _).mono ?_
  rintro e w6 ⟨rfl, rfl⟩
  dsimp only
  refine hK.out _ _ (Below.refl _ w7).drew (fun hS1 => ?_)
  clear hK K5
  try simp only [Act.put, s1, s2, s3]
  refine tkD HT 7 48 (v := ?_) ?_ ?_
  rotate_left
  · (intro w5 hSw; go_simp; (try with_reducible rfl))
  try simp only [s1, s2, s3]
  refine tkL 8 (fun K5 hK => ?_)
  go_simp
  refine hK.out _ _ ?_
  clear hK K5
  try simp only [Act.put, s1, s2, s3]
  refine tkL 9 (fun K5 hK => ?_)
  go_simp
  refine hK.out _ _ ?_
  clear hK K5
  try simp only [Act.put, s1, s2, s3]
  refine wpAnyM_done (by kernel_rfl) (NoPanic.normal ?_)
  have HR8 := Lib.hid (show (World.drew (w7.alloc (.cells #[.int .i64 me, .int .u64 t, .int .i64 v, .slice a es.length cap, .int .i64 0, .int .i64 0, .int .i64 (-1), .int .i64 clock, .int .i64 clock, .int .i64 (timeoutS draw), .bool false, .bool false, .bool false, .int .i64 0, .int .i64 0, .int .i64 0, .int .i64 0, .int .i64 0, .int .i64 0, .int .i64 0, .int .i64 0, .int .i64 0, .int .i64 0, .int .i64 0, .int .i64 0, .int .i64 0, .int .i64 0, .int .i64 0, .int .i64 clock, .slice none 0 0, .slice none 0 0] 53))).heap[w7.heap.size]? = some (.cells (rcA (newC me t v es clock draw) (fun _ => false) (.slice a es.length cap) (.slice none 0 0) (.slice none 0 0)) 53 (0, 0)) from heap_alloc_new w7 (.cells #[.int .i64 me, .int .u64 t, .int .i64 v, .slice a es.length cap, .int .i64 0, .int .i64 0, .int .i64 (-1), .int .i64 clock, .int .i64 clock, .int .i64 (timeoutS draw), .bool false, .bool false, .bool false, .int .i64 0, .int .i64 0, .int .i64 0, .int .i64 0, .int .i64 0, .int .i64 0, .int .i64 0, .int .i64 0, .int .i64 0, .int .i64 0, .int .i64 0, .int .i64 0, .int .i64 0, .int .i64 0, .int .i64 0, .int .i64 clock, .slice none 0 0, .slice none 0 0] 53))
  have HB8 := Lib.hid (show Below Y.heap.size Y (World.drew (w7.alloc (.cells #[.int .i64 me, .int .u64 t, .int .i64 v, .slice a es.length cap, .int .i64 0, .int .i64 0, .int .i64 (-1), .int .i64 clock, .int .i64 clock, .int .i64 (timeoutS draw), .bool false, .bool false, .bool false, .int .i64 0, .int .i64 0, .int .i64 0, .int .i64 0, .int .i64 0, .int .i64 0, .int .i64 0, .int .i64 0, .int .i64 0, .int .i64 0, .int .i64 0, .int .i64 0, .int .i64 0, .int .i64 0, .int .i64 0, .int .i64 clock, .slice none 0 0, .slice none 0 0] 53))) from grew_trans HBX.out ((bel1 w7 (.cells #[.int .i64 me, .int .u64 t, .int .i64 v, .slice a es.length cap, .int .i64 0, .int .i64 0, .int .i64 (-1), .int .i64 clock, .int .i64 clock, .int .i64 (timeoutS draw), .bool false, .bool false, .bool false, .int .i64 0, .int .i64 0, .int .i64 0, .int .i64 0, .int .i64 0, .int .i64 0, .int .i64 0, .int .i64 0, .int .i64 0, .int .i64 0, .int .i64 0, .int .i64 0, .int .i64 0, .int .i64 0, .int .i64 0, .int .i64 clock, .slice none 0 0, .slice none 0 0] 53)).drew))
  have HQ := Lib.hid (show nb < w7.heap.size by have := blk_lt hbm; omega)
  have hbm8 := blk_below hbm (show Below w7.heap.size w7 (World.drew (w7.alloc (.cells #[.int .i64 me, .int .u64 t, .int .i64 v, .slice a es.length cap, .int .i64 0, .int .i64 0, .int .i64 (-1), .int .i64 clock, .int .i64 clock, .int .i64 (timeoutS draw), .bool false, .bool false, .bool false, .int .i64 0, .int .i64 0, .int .i64 0, .int .i64 0, .int .i64 0, .int .i64 0, .int .i64 0, .int .i64 0, .int .i64 0, .int .i64 0, .int .i64 0, .int .i64 0, .int .i64 0, .int .i64 0, .int .i64 0, .int .i64 clock, .slice none 0 0, .slice none 0 0] 53))) from (bel1 w7 (.cells #[.int .i64 me, .int .u64 t, .int .i64 v, .slice a es.length cap, .int .i64 0, .int .i64 0, .int .i64 (-1), .int .i64 clock, .int .i64 clock, .int .i64 (timeoutS draw), .bool false, .bool false, .bool false, .int .i64 0, .int .i64 0, .int .i64 0, .int .i64 0, .int .i64 0, .int .i64 0, .int .i64 0, .int .i64 0, .int .i64 0, .int .i64 0, .int .i64 0, .int .i64 0, .int .i64 0, .int .i64 0, .int .i64 0, .int .i64 clock, .slice none 0 0, .slice none 0 0] 53)).drew)
  clear hbm hS0 HT
  generalize World.drew (w7.alloc (.cells #[.int .i64 me, .int .u64 t, .int .i64 v, .slice a es.length cap, .int .i64 0, .int .i64 0, .int .i64 (-1), .int .i64 clock, .int .i64 clock, .int .i64 (timeoutS draw), .bool false, .bool false, .bool false, .int .i64 0, .int .i64 0, .int .i64 0, .int .i64 0, .int .i64 0, .int .i64 0, .int .i64 0, .int .i64 0, .int .i64 0, .int .i64 0, .int .i64 0, .int .i64 0, .int .i64 0, .int .i64 0, .int .i64 0, .int .i64 clock, .slice none 0 0, .slice none 0 0] 53)) = Z at *
  have c2 := (cell_of hbm8 2 (v := .slice a es.length cap) rfl).1
  have HEN := Lib.hid (ents_below HSL.out.ents HB8.out)
  have hcap := HSL.out.len
  have hcm := HSL.out.capm
  unfold maxLen at hcm
  have HZ := Lib.hid (And.intro hlen2 (show nb ≤ Z.heap.size by have := blk_lt hbm8; omega))
  clear hbm8 hlen2
  go_upto_region 6 with (at_builtin; refine app_ents rfl _ _ rfl nb _ [] rfl (World.ownsRow_nil _ _ _ _) a es.length cap es rfl rfl HEN.out HSL.out.nil0 (by have := HZ.out.1; simp; omega) HZ.out.2 ?_; intro v' w' hown' hgrow; obtain ⟨a2, c3, hv', -, -⟩ := own_sl hown'; rw [List.nil_append] at hv'; subst hv'; have HO := Lib.hid (show OwnE w' nb (.slice a2 es.length c3) es from hown'); have hk8 := (hgrow.block w7.heap.size (blk_lt HR8.out) (fun e => by cases e)).trans HR8.out; have HK8 := Lib.hid hk8; have HG := Lib.hid (show Below Z.heap.size Z w' from (Below.refl _ Z).grown hgrow (Nat.le_refl _) (fun j hj => by cases hj)); have d3 := (cell_of hk8 3 (v := .slice a es.length cap) rfl).1; have d3f := (cell_of hk8 3 (v := .slice a es.length cap) rfl).2; clear hk8 hown' hgrow)
  go_wp2
  go_ret
  have hM : Mod (fun k => k = w7.heap.size) w' (w'.setCell ⟨w7.heap.size, 3, none⟩ (.slice a2 es.length c3)) := Mod.cellOf _ _ _
  have hn := HNB.out
  have hqq := HQ.out
  have hn2 : (Value.slice a2 es.length c3).ownBlock ≠ some w7.heap.size := ownR_not HO.out HK8.out (fun cs e => by simp at e)
  have hs : nb ≤ Y.heap.size := by have := HW.out.size; omega
  have hb : Below nb w (w'.setCell ⟨w7.heap.size, 3, none⟩ (.slice a2 es.length c3)) := by
    have h1 : Below nb w w' := (HW.out.trans (HB8.out.mono hs)).trans (HG.out.mono (Nat.le_trans hs HB8.out.size))
    exact h1.trans (hM.below (by have := h1.size; omega) (fun k e => by omega))
  unfold RNewP
  rw [hn]
  refine ⟨w7.heap.size, .slice a2 es.length c3, rfl, ⟨by rw [setCell_blk HK8.out]; rfl, by omega, ?_⟩, hb⟩
  exact hM.own HO.out (fun g hg e => hn2 (e ▸ hg))
theorem rnew_yes (n : Nat) (hn : es.length = n) (h : Sl w a cap es) (hlen : es.length ≤ 1000) (hwf : ∀ i, i < es.length → wfE (es.getD i default)) (hdr : I64 draw) (hok : newOk me t v es = true) :
    Calls Tryz.prog 5 #[.int .i64 me, .agg #[.int .u64 t, .int .i64 v, .slice a n cap], .int .i64 clock, .int .i64 draw] w (RNewP (newC me t v es clock draw) w) := by
  subst hn
  unfold newOk at hok
  simp only [Bool.and_eq_true, decide_eq_true_eq] at hok
  obtain ⟨⟨⟨⟨⟨h1, h2⟩, h3⟩, h4⟩, h5⟩, h6⟩ := hok
  exact rnew_ok me t v clock draw a cap es h hlen hwf hdr ⟨h1, h2⟩ h3 ⟨h4, h5⟩ h6
theorem rnew_no (n : Nat) (hn : es.length = n) (h : Sl w a cap es) (hlen : es.length ≤ 1000) (hwf : ∀ i, i < es.length → wfE (es.getD i default)) (hdr : I64 draw) (hok : newOk me t v es = false) :
    Calls Tryz.prog 5 #[.int .i64 me, .agg #[.int .u64 t, .int .i64 v, .slice a n cap], .int .i64 clock, .int .i64 draw] w (NilP w) := by
  subst hn
  by_cases hA : me < 0
  · exact rnew_A me t v clock draw a cap es h hlen hwf hdr hA
  by_cases hB : 3 ≤ me
  · exact rnew_B me t v clock draw a cap es h hlen hwf hdr hB
  by_cases hC : checkE es = 0
  · by_cases hD : v < -1
    · exact rnew_D me t v clock draw a cap es h hlen hwf hdr (by omega) hC hD
    by_cases hE : 3 ≤ v
    · exact rnew_E me t v clock draw a cap es h hlen hwf hdr (by omega) hC hE
    by_cases hF : t < lastT es
    · exact rnew_F me t v clock draw a cap es h hlen hwf hdr (by omega) hC (by omega) hF
    exfalso
    unfold newOk at hok
    have : (decide (0 ≤ me) && decide (me < 3) && decide (checkE es = 0) && decide (-1 ≤ v) && decide (v < 3) && decide (lastT es ≤ t)) = true := by
      simp only [Bool.and_eq_true, decide_eq_true_eq]; omega
    rw [this] at hok; cases hok
  · exact rnew_C me t v clock draw a cap es h hlen hwf hdr (by omega) hC
end
end Go.Proofs.YtcleaamjfjnkkaaGreat
