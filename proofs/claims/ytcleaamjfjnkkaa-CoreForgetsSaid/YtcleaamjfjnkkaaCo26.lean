/- A voter begins. -/
import Derived.Test.YtcleaamjfjnkkaaCo25
import Derived.Test.YtcleaamjfjnkkaaCo19
namespace Go.Proofs.Ytcleaamjfjnkkaa
open Go.RowKit Go.Joins

def NilP (w : World) (e : Ending) (w' : World) : Prop := e = .returned (.pointer none) ∧ Below w.heap.size w w'
def NewP (c : Co) (w : World) (e : Ending) (w' : World) : Prop := ∃ p lv, e = .returned (.pointer (some ⟨p, 0, none⟩)) ∧ CL w' w.heap.size p lv NIL NIL c ∧ Below w.heap.size w w'
set_option linter.unusedSimpArgs false in
set_option linter.unusedVariables false in
set_option maxHeartbeats 8000000 in
set_option maxRecDepth 100000 in
theorem new_A {w : World} (me t v clock draw : Int) (a : Option Addr) (cap : Nat) (es : List Ent) (h : Sl w a cap es) (hlen : es.length ≤ 1000) (hwf : ∀ i, i < es.length → wfE (es.getD i default)) (hdr : I64 draw) (hm : me < 0) :
    Calls Try.prog 8 #[.int .i64 me, .agg #[.int .u64 t, .int .i64 v, .slice a es.length cap], .int .i64 clock, .int .i64 draw] w (NilP w) := by
  have mixed : Try.prog.follows .mixedOrders = true := by kernel_rfl
  have HW := Lib.hid (bel1 w (.cells #[.int .u64 t, .int .i64 v, .slice a es.length cap] 26))
  have HBL := Lib.hid (heap_alloc_new w (.cells #[.int .u64 t, .int .i64 v, .slice a es.length cap] 26))
  have HC := Lib.hid (show (Cel3 ⟨w.heap.size, 0, none⟩ (.int .u64 t) ⟨w.heap.size, 1, none⟩ (.int .i64 v) ⟨w.heap.size, 2, none⟩ (.slice a es.length cap)) (w.alloc (.cells #[.int .u64 t, .int .i64 v, .slice a es.length cap] 26)) from ⟨(cell_of HBL.out 0 rfl).1, (cell_of HBL.out 1 rfl).1, (cell_of HBL.out 2 rfl).1⟩)
  have HSL := Lib.hid (h.below HW.out)
  have HI := Lib.hid (And.intro hlen (And.intro hwf hdr))
  have hd0 : decide (me < 0) = true := decide_eq_true hm
  clear h hlen hwf hdr
  go_enter Try.func8, Try.ntmps8
  go_upto_region 1 with fail
  generalize w.alloc (.cells #[.int .u64 t, .int .i64 v, .slice a es.length cap] 26) = Y at *
  refine wp_region_noPanic ?_
  refine wp_region_lim (Cel3 ⟨w.heap.size, 0, none⟩ (.int .u64 t) ⟨w.heap.size, 1, none⟩ (.int .i64 v) ⟨w.heap.size, 2, none⟩ (.slice a es.length cap)) (fun i => decide (i < 30)) (fun i => false) (by kernel_rfl) (by kernel_rfl) (cel3_bel HC.out (Below.refl _ _).drew) (fun HT hS0 => ?_)
  have HB0 := Lib.hid (show Below Y.heap.size Y Y.drew from (Below.refl _ Y).drew)
  refine tkD HT 0 9 (v := ?_) ?_ ?_
  rotate_left
  · (intro w5 hSw; obtain ⟨q1, q2, q3⟩ := hSw; go_simp; (try with_reducible rfl))
  try simp only [s1, s2, s3]
  refine tkD HT 1 10 (v := ?_) ?_ ?_
  rotate_left
  · (intro w5 hSw; obtain ⟨q1, q2, q3⟩ := hSw; go_simp; (try with_reducible rfl))
  try simp only [s1, s2, s3]
  refine tkD HT 2 11 (v := ?_) ?_ ?_
  rotate_left
  · (intro w5 hSw; obtain ⟨q1, q2, q3⟩ := hSw; go_simp; (try with_reducible rfl))
  try simp only [s1, s2, s3]
  refine tkN HT 3 12 ?_
  try simp only [s1, s2, s3]
  refine tkN HT 4 13 ?_
  try simp only [s1, s2, s3]
  refine tkD HT 5 14 (v := ?_) ?_ ?_
  rotate_left
  · (intro w5 hSw; obtain ⟨q1, q2, q3⟩ := hSw; go_simp; (try with_reducible rfl))
  try simp only [s1, s2, s3]
  refine tkD HT 6 15 (v := ?_) ?_ ?_
  rotate_left
  · (intro w5 hSw; obtain ⟨q1, q2, q3⟩ := hSw; go_simp; (try with_reducible rfl))
  try simp only [s1, s2, s3]
  refine tkN HT 7 16 ?_
  try simp only [s1, s2, s3]
  refine tkN HT 8 17 ?_
  try simp only [s1, s2, s3]
  refine tkS 9 (fun K5 hK => ?_)
  go_simp
  refine hK.out _ _ (cel3_bel HC.out HB0.out) (fun hS1 => ?_)
  clear hK K5
  try simp only [Act.put, s1, s2, s3]
  refine tkN HT 10 19 ?_
  try simp only [s1, s2, s3]
  refine tkD HT 11 20 (v := ?_) ?_ ?_
  rotate_left
  · (intro w5 hSw; obtain ⟨q1, q2, q3⟩ := hSw; go_simp; (try with_reducible rfl))
  try simp only [s1, s2, s3]
  refine tkD HT 12 21 (v := ?_) ?_ ?_
  rotate_left
  · (intro w5 hSw; obtain ⟨q1, q2, q3⟩ := hSw; go_simp; (try with_reducible rfl))
  try simp only [s1, s2, s3]
  refine tkN HT 13 22 ?_
  try simp only [s1, s2, s3]
  refine tkN HT 14 23 ?_
  try simp only [s1, s2, s3]
  refine tkN HT 15 24 ?_
  try simp only [s1, s2, s3]
  refine tkD HT 16 25 (v := ?_) ?_ ?_
  rotate_left
  · (intro w5 hSw; obtain ⟨q1, q2, q3⟩ := hSw; go_simp; (try with_reducible rfl))
  try simp only [s1, s2, s3]
  refine tkD HT 17 26 (v := ?_) ?_ ?_
  rotate_left
  · (intro w5 hSw; obtain ⟨q1, q2, q3⟩ := hSw; go_simp; (try with_reducible rfl))
  try simp only [s1, s2, s3]
  refine tkN HT 18 27 ?_
  try simp only [s1, s2, s3]
  refine tkN HT 19 28 ?_
  try simp only [s1, s2, s3]
  refine tkN HT 20 29 ?_
  try simp only [s1, s2, s3]
  refine tkD HT 21 30 (v := ?_) ?_ ?_
  rotate_left
  · (intro w5 hSw; obtain ⟨q1, q2, q3⟩ := hSw; go_simp; (try with_reducible rfl))
  try simp only [s1, s2, s3]
  refine tkD HT 22 31 (v := ?_) ?_ ?_
  rotate_left
  · (intro w5 hSw; obtain ⟨q1, q2, q3⟩ := hSw; go_simp; (try with_reducible rfl))
  try simp only [s1, s2, s3]
  refine tkN HT 23 32 ?_
  try simp only [s1, s2, s3]
  refine tkN HT 24 33 ?_
  try simp only [s1, s2, s3]
  refine tkN HT 25 34 ?_
  try simp only [s1, s2, s3]
  refine tkN HT 26 35 ?_
  try simp only [s1, s2, s3]
  refine tkS 27 (fun K5 hK => ?_)
  go_simp
  refine hK.out _ _ (cel3_bel HC.out HB0.out) (fun hS1 => ?_)
  clear hK K5
  try simp only [Act.put, s1, s2, s3]
  refine tkN HT 28 37 ?_
  try simp only [s1, s2, s3]
  refine tkD HT 29 38 (v := ?_) ?_ ?_
  rotate_left
  · (intro w5 hSw; obtain ⟨q1, q2, q3⟩ := hSw; go_simp; (try with_reducible rfl))
  try simp only [s1, s2, s3]
  refine wpAnyM_done (by kernel_rfl) (NoPanic.normal ?_)
  go_wp2
  go_ret
  exact ⟨rfl, HW.out.trans (HB0.out.mono HW.out.size)⟩
set_option linter.unusedSimpArgs false in
set_option linter.unusedVariables false in
set_option maxHeartbeats 8000000 in
set_option maxRecDepth 100000 in
theorem new_B {w : World} (me t v clock draw : Int) (a : Option Addr) (cap : Nat) (es : List Ent) (h : Sl w a cap es) (hlen : es.length ≤ 1000) (hwf : ∀ i, i < es.length → wfE (es.getD i default)) (hdr : I64 draw) (hm : 3 ≤ me) :
    Calls Try.prog 8 #[.int .i64 me, .agg #[.int .u64 t, .int .i64 v, .slice a es.length cap], .int .i64 clock, .int .i64 draw] w (NilP w) := by
  have mixed : Try.prog.follows .mixedOrders = true := by kernel_rfl
  have HW := Lib.hid (bel1 w (.cells #[.int .u64 t, .int .i64 v, .slice a es.length cap] 26))
  have HBL := Lib.hid (heap_alloc_new w (.cells #[.int .u64 t, .int .i64 v, .slice a es.length cap] 26))
  have HC := Lib.hid (show (Cel3 ⟨w.heap.size, 0, none⟩ (.int .u64 t) ⟨w.heap.size, 1, none⟩ (.int .i64 v) ⟨w.heap.size, 2, none⟩ (.slice a es.length cap)) (w.alloc (.cells #[.int .u64 t, .int .i64 v, .slice a es.length cap] 26)) from ⟨(cell_of HBL.out 0 rfl).1, (cell_of HBL.out 1 rfl).1, (cell_of HBL.out 2 rfl).1⟩)
  have HSL := Lib.hid (h.below HW.out)
  have HI := Lib.hid (And.intro hlen (And.intro hwf hdr))
  have hm0 : 0 ≤ me := by omega
  have hd0 : decide (me < 0) = false := decide_eq_false (by omega)
  have hd1 : decide (3 ≤ me) = true := decide_eq_true hm
  clear h hlen hwf hdr
  go_enter Try.func8, Try.ntmps8
  go_upto_region 1 with fail
  generalize w.alloc (.cells #[.int .u64 t, .int .i64 v, .slice a es.length cap] 26) = Y at *
  refine wp_region_noPanic ?_
  refine wp_region_lim (Cel3 ⟨w.heap.size, 0, none⟩ (.int .u64 t) ⟨w.heap.size, 1, none⟩ (.int .i64 v) ⟨w.heap.size, 2, none⟩ (.slice a es.length cap)) (fun i => decide (i < 30)) (fun i => false) (by kernel_rfl) (by kernel_rfl) (cel3_bel HC.out (Below.refl _ _).drew) (fun HT hS0 => ?_)
  have HB0 := Lib.hid (show Below Y.heap.size Y Y.drew from (Below.refl _ Y).drew)
  refine tkD HT 0 9 (v := ?_) ?_ ?_
  rotate_left
  · (intro w5 hSw; obtain ⟨q1, q2, q3⟩ := hSw; go_simp; (try with_reducible rfl))
  try simp only [s1, s2, s3]
  refine tkD HT 1 10 (v := ?_) ?_ ?_
  rotate_left
  · (intro w5 hSw; obtain ⟨q1, q2, q3⟩ := hSw; go_simp; (try with_reducible rfl))
  try simp only [s1, s2, s3]
  refine tkD HT 2 11 (v := ?_) ?_ ?_
  rotate_left
  · (intro w5 hSw; obtain ⟨q1, q2, q3⟩ := hSw; go_simp; (try with_reducible rfl))
  try simp only [s1, s2, s3]
  refine tkD HT 3 12 (v := ?_) ?_ ?_
  rotate_left
  · (intro w5 hSw; obtain ⟨q1, q2, q3⟩ := hSw; go_simp; (try with_reducible rfl))
  try simp only [s1, s2, s3]
  refine tkD HT 4 13 (v := ?_) ?_ ?_
  rotate_left
  · (intro w5 hSw; obtain ⟨q1, q2, q3⟩ := hSw; go_simp; (try with_reducible rfl))
  try simp only [s1, s2, s3]
  refine tkD HT 5 14 (v := ?_) ?_ ?_
  rotate_left
  · (intro w5 hSw; obtain ⟨q1, q2, q3⟩ := hSw; go_simp; (try with_reducible rfl))
  try simp only [s1, s2, s3]
  refine tkD HT 6 15 (v := ?_) ?_ ?_
  rotate_left
  · (intro w5 hSw; obtain ⟨q1, q2, q3⟩ := hSw; go_simp; (try with_reducible rfl))
  try simp only [s1, s2, s3]
  refine tkN HT 7 16 ?_
  try simp only [s1, s2, s3]
  refine tkN HT 8 17 ?_
  try simp only [s1, s2, s3]
  refine tkS 9 (fun K5 hK => ?_)
  go_simp
  refine hK.out _ _ (cel3_bel HC.out HB0.out) (fun hS1 => ?_)
  clear hK K5
  try simp only [Act.put, s1, s2, s3]
  refine tkN HT 10 19 ?_
  try simp only [s1, s2, s3]
  refine tkD HT 11 20 (v := ?_) ?_ ?_
  rotate_left
  · (intro w5 hSw; obtain ⟨q1, q2, q3⟩ := hSw; go_simp; (try with_reducible rfl))
  try simp only [s1, s2, s3]
  refine tkD HT 12 21 (v := ?_) ?_ ?_
  rotate_left
  · (intro w5 hSw; obtain ⟨q1, q2, q3⟩ := hSw; go_simp; (try with_reducible rfl))
  try simp only [s1, s2, s3]
  refine tkN HT 13 22 ?_
  try simp only [s1, s2, s3]
  refine tkN HT 14 23 ?_
  try simp only [s1, s2, s3]
  refine tkN HT 15 24 ?_
  try simp only [s1, s2, s3]
  refine tkD HT 16 25 (v := ?_) ?_ ?_
  rotate_left
  · (intro w5 hSw; obtain ⟨q1, q2, q3⟩ := hSw; go_simp; (try with_reducible rfl))
  try simp only [s1, s2, s3]
  refine tkD HT 17 26 (v := ?_) ?_ ?_
  rotate_left
  · (intro w5 hSw; obtain ⟨q1, q2, q3⟩ := hSw; go_simp; (try with_reducible rfl))
  try simp only [s1, s2, s3]
  refine tkN HT 18 27 ?_
  try simp only [s1, s2, s3]
  refine tkN HT 19 28 ?_
  try simp only [s1, s2, s3]
  refine tkN HT 20 29 ?_
  try simp only [s1, s2, s3]
  refine tkD HT 21 30 (v := ?_) ?_ ?_
  rotate_left
  · (intro w5 hSw; obtain ⟨q1, q2, q3⟩ := hSw; go_simp; (try with_reducible rfl))
  try simp only [s1, s2, s3]
  refine tkD HT 22 31 (v := ?_) ?_ ?_
  rotate_left
  · (intro w5 hSw; obtain ⟨q1, q2, q3⟩ := hSw; go_simp; (try with_reducible rfl))
  try simp only [s1, s2, s3]
  refine tkN HT 23 32 ?_
  try simp only [s1, s2, s3]
  refine tkN HT 24 33 ?_
  try simp only [s1, s2, s3]
  refine tkN HT 25 34 ?_
  try simp only [s1, s2, s3]
  refine tkN HT 26 35 ?_
  try simp only [s1, s2, s3]
  refine tkS 27 (fun K5 hK => ?_)
  go_simp
  refine hK.out _ _ (cel3_bel HC.out HB0.out) (fun hS1 => ?_)
  clear hK K5
  try simp only [Act.put, s1, s2, s3]
  refine tkN HT 28 37 ?_
  try simp only [s1, s2, s3]
  refine tkD HT 29 38 (v := ?_) ?_ ?_
  rotate_left
  · (intro w5 hSw; obtain ⟨q1, q2, q3⟩ := hSw; go_simp; (try with_reducible rfl))
  try simp only [s1, s2, s3]
  refine wpAnyM_done (by kernel_rfl) (NoPanic.normal ?_)
  go_wp2
  go_ret
  exact ⟨rfl, HW.out.trans (HB0.out.mono HW.out.size)⟩
set_option linter.unusedSimpArgs false in
set_option linter.unusedVariables false in
set_option maxHeartbeats 8000000 in
set_option maxRecDepth 100000 in
theorem new_C {w : World} (me t v clock draw : Int) (a : Option Addr) (cap : Nat) (es : List Ent) (h : Sl w a cap es) (hlen : es.length ≤ 1000) (hwf : ∀ i, i < es.length → wfE (es.getD i default)) (hdr : I64 draw) (hm : 0 ≤ me ∧ me < 3) (hc : checkE es ≠ 0) :
    Calls Try.prog 8 #[.int .i64 me, .agg #[.int .u64 t, .int .i64 v, .slice a es.length cap], .int .i64 clock, .int .i64 draw] w (NilP w) := by
  have mixed : Try.prog.follows .mixedOrders = true := by kernel_rfl
  have HW := Lib.hid (bel1 w (.cells #[.int .u64 t, .int .i64 v, .slice a es.length cap] 26))
  have HBL := Lib.hid (heap_alloc_new w (.cells #[.int .u64 t, .int .i64 v, .slice a es.length cap] 26))
  have HC := Lib.hid (show (Cel3 ⟨w.heap.size, 0, none⟩ (.int .u64 t) ⟨w.heap.size, 1, none⟩ (.int .i64 v) ⟨w.heap.size, 2, none⟩ (.slice a es.length cap)) (w.alloc (.cells #[.int .u64 t, .int .i64 v, .slice a es.length cap] 26)) from ⟨(cell_of HBL.out 0 rfl).1, (cell_of HBL.out 1 rfl).1, (cell_of HBL.out 2 rfl).1⟩)
  have HSL := Lib.hid (h.below HW.out)
  have HI := Lib.hid (And.intro hlen (And.intro hwf hdr))
  have hd0 : decide (me < 0) = false := decide_eq_false (by omega)
  have hd1 : decide (3 ≤ me) = false := decide_eq_false (by omega)
  have hm1 : 0 ≤ me := hm.1
  have hm2 : me < 3 := hm.2
  have HCK := Lib.hid (fun W (hb : Below (w.alloc (.cells #[.int .u64 t, .int .i64 v, .slice a es.length cap] 26)).heap.size (w.alloc (.cells #[.int .u64 t, .int .i64 v, .slice a es.length cap] 26)) W) => check_any a cap es W (ents_below HSL.out.ents hb) (by unfold maxLen; omega) hwf)
  obtain ⟨ck, hck⟩ : ∃ ck, ck = checkE es := ⟨_, rfl⟩
  rw [← hck] at hc HCK
  have hcb : (ck != 0) = true := by simp [hc]
  clear hck hc
  clear h hlen hwf hdr hm
  go_enter Try.func8, Try.ntmps8
  go_upto_region 1 with fail
  generalize w.alloc (.cells #[.int .u64 t, .int .i64 v, .slice a es.length cap] 26) = Y at *
  refine wp_region_noPanic ?_
  refine wp_region_lim (Cel3 ⟨w.heap.size, 0, none⟩ (.int .u64 t) ⟨w.heap.size, 1, none⟩ (.int .i64 v) ⟨w.heap.size, 2, none⟩ (.slice a es.length cap)) (fun i => decide (i < 30)) (fun i => false) (by kernel_rfl) (by kernel_rfl) (cel3_bel HC.out (Below.refl _ _).drew) (fun HT hS0 => ?_)
  have HB0 := Lib.hid (show Below Y.heap.size Y Y.drew from (Below.refl _ Y).drew)
  refine tkD HT 0 9 (v := ?_) ?_ ?_
  rotate_left
  · (intro w5 hSw; obtain ⟨q1, q2, q3⟩ := hSw; go_simp; (try with_reducible rfl))
  try simp only [s1, s2, s3]
  refine tkD HT 1 10 (v := ?_) ?_ ?_
  rotate_left
  · (intro w5 hSw; obtain ⟨q1, q2, q3⟩ := hSw; go_simp; (try with_reducible rfl))
  try simp only [s1, s2, s3]
  refine tkD HT 2 11 (v := ?_) ?_ ?_
  rotate_left
  · (intro w5 hSw; obtain ⟨q1, q2, q3⟩ := hSw; go_simp; (try with_reducible rfl))
  try simp only [s1, s2, s3]
  refine tkD HT 3 12 (v := ?_) ?_ ?_
  rotate_left
  · (intro w5 hSw; obtain ⟨q1, q2, q3⟩ := hSw; go_simp; (try with_reducible rfl))
  try simp only [s1, s2, s3]
  refine tkD HT 4 13 (v := ?_) ?_ ?_
  rotate_left
  · (intro w5 hSw; obtain ⟨q1, q2, q3⟩ := hSw; go_simp; (try with_reducible rfl))
  try simp only [s1, s2, s3]
  refine tkD HT 5 14 (v := ?_) ?_ ?_
  rotate_left
  · (intro w5 hSw; obtain ⟨q1, q2, q3⟩ := hSw; go_simp; (try with_reducible rfl))
  try simp only [s1, s2, s3]
  refine tkD HT 6 15 (v := ?_) ?_ ?_
  rotate_left
  · (intro w5 hSw; obtain ⟨q1, q2, q3⟩ := hSw; go_simp; (try with_reducible rfl))
  try simp only [s1, s2, s3]
  refine tkD HT 7 16 (v := ?_) ?_ ?_
  rotate_left
  · (intro w5 hSw; obtain ⟨q1, q2, q3⟩ := hSw; go_simp; (try with_reducible rfl))
  try simp only [s1, s2, s3]
  refine tkD HT 8 17 (v := ?_) ?_ ?_
  rotate_left
  · (intro w5 hSw; obtain ⟨q1, q2, q3⟩ := hSw; go_simp; (try with_reducible rfl))
  try simp only [s1, s2, s3]
  refine tkS 9 (fun K5 hK => ?_)
  go_simp
  go_at_call 9
  refine (HCK.out _ HB0.out).mono ?_
  rintro e w7 ⟨rfl, hb7⟩
  have HB7 := Lib.hid (grew_trans HB0.out hb7)
  clear hb7
  dsimp only
  refine hK.out _ _ (cel3_bel HC.out HB7.out) (fun hS1 => ?_)
  clear hK K5
  try simp only [Act.put, s1, s2, s3]
  refine tkD HT 10 19 (v := ?_) ?_ ?_
  rotate_left
  · (intro w5 hSw; obtain ⟨q1, q2, q3⟩ := hSw; go_simp; (try with_reducible rfl))
  try simp only [s1, s2, s3]
  refine tkD HT 11 20 (v := ?_) ?_ ?_
  rotate_left
  · (intro w5 hSw; obtain ⟨q1, q2, q3⟩ := hSw; go_simp; (try with_reducible rfl))
  try simp only [s1, s2, s3]
  refine tkD HT 12 21 (v := ?_) ?_ ?_
  rotate_left
  · (intro w5 hSw; obtain ⟨q1, q2, q3⟩ := hSw; go_simp; (try with_reducible rfl))
  try simp only [s1, s2, s3]
  refine tkN HT 13 22 ?_
  try simp only [s1, s2, s3]
  refine tkN HT 14 23 ?_
  try simp only [s1, s2, s3]
  refine tkN HT 15 24 ?_
  try simp only [s1, s2, s3]
  refine tkD HT 16 25 (v := ?_) ?_ ?_
  rotate_left
  · (intro w5 hSw; obtain ⟨q1, q2, q3⟩ := hSw; go_simp; (try with_reducible rfl))
  try simp only [s1, s2, s3]
  refine tkD HT 17 26 (v := ?_) ?_ ?_
  rotate_left
  · (intro w5 hSw; obtain ⟨q1, q2, q3⟩ := hSw; go_simp; (try with_reducible rfl))
  try simp only [s1, s2, s3]
  refine tkN HT 18 27 ?_
  try simp only [s1, s2, s3]
  refine tkN HT 19 28 ?_
  try simp only [s1, s2, s3]
  refine tkN HT 20 29 ?_
  try simp only [s1, s2, s3]
  refine tkD HT 21 30 (v := ?_) ?_ ?_
  rotate_left
  · (intro w5 hSw; obtain ⟨q1, q2, q3⟩ := hSw; go_simp; (try with_reducible rfl))
  try simp only [s1, s2, s3]
  refine tkD HT 22 31 (v := ?_) ?_ ?_
  rotate_left
  · (intro w5 hSw; obtain ⟨q1, q2, q3⟩ := hSw; go_simp; (try with_reducible rfl))
  try simp only [s1, s2, s3]
  refine tkN HT 23 32 ?_
  try simp only [s1, s2, s3]
  refine tkN HT 24 33 ?_
  try simp only [s1, s2, s3]
  refine tkN HT 25 34 ?_
  try simp only [s1, s2, s3]
  refine tkN HT 26 35 ?_
  try simp only [s1, s2, s3]
  refine tkS 27 (fun K5 hK => ?_)
  go_simp
  refine hK.out _ _ (cel3_bel HC.out HB7.out) (fun hS1 => ?_)
  clear hK K5
  try simp only [Act.put, s1, s2, s3]
  refine tkN HT 28 37 ?_
  try simp only [s1, s2, s3]
  refine tkD HT 29 38 (v := ?_) ?_ ?_
  rotate_left
  · (intro w5 hSw; obtain ⟨q1, q2, q3⟩ := hSw; go_simp; (try with_reducible rfl))
  try simp only [s1, s2, s3]
  refine wpAnyM_done (by kernel_rfl) (NoPanic.normal ?_)
  go_wp2
  go_ret
  exact ⟨rfl, HW.out.trans (HB7.out.mono HW.out.size)⟩
set_option linter.unusedSimpArgs false in
set_option linter.unusedVariables false in
set_option maxHeartbeats 8000000 in
set_option maxRecDepth 100000 in
theorem new_D {w : World} (me t v clock draw : Int) (a : Option Addr) (cap : Nat) (es : List Ent) (h : Sl w a cap es) (hlen : es.length ≤ 1000) (hwf : ∀ i, i < es.length → wfE (es.getD i default)) (hdr : I64 draw) (hm : 0 ≤ me ∧ me < 3) (hc : checkE es = 0) (hv : v < -1) :
    Calls Try.prog 8 #[.int .i64 me, .agg #[.int .u64 t, .int .i64 v, .slice a es.length cap], .int .i64 clock, .int .i64 draw] w (NilP w) := by
  have mixed : Try.prog.follows .mixedOrders = true := by kernel_rfl
  have HW := Lib.hid (bel1 w (.cells #[.int .u64 t, .int .i64 v, .slice a es.length cap] 26))
  have HBL := Lib.hid (heap_alloc_new w (.cells #[.int .u64 t, .int .i64 v, .slice a es.length cap] 26))
  have HC := Lib.hid (show (Cel3 ⟨w.heap.size, 0, none⟩ (.int .u64 t) ⟨w.heap.size, 1, none⟩ (.int .i64 v) ⟨w.heap.size, 2, none⟩ (.slice a es.length cap)) (w.alloc (.cells #[.int .u64 t, .int .i64 v, .slice a es.length cap] 26)) from ⟨(cell_of HBL.out 0 rfl).1, (cell_of HBL.out 1 rfl).1, (cell_of HBL.out 2 rfl).1⟩)
  have HSL := Lib.hid (h.below HW.out)
  have HI := Lib.hid (And.intro hlen (And.intro hwf hdr))
  have hd0 : decide (me < 0) = false := decide_eq_false (by omega)
  have hd1 : decide (3 ≤ me) = false := decide_eq_false (by omega)
  have hm1 : 0 ≤ me := hm.1
  have hm2 : me < 3 := hm.2
  have HCK := Lib.hid (fun W (hb : Below (w.alloc (.cells #[.int .u64 t, .int .i64 v, .slice a es.length cap] 26)).heap.size (w.alloc (.cells #[.int .u64 t, .int .i64 v, .slice a es.length cap] 26)) W) => check_any a cap es W (ents_below HSL.out.ents hb) (by unfold maxLen; omega) hwf)
  rw [hc] at HCK
  have hd2 : decide (v < -1) = true := decide_eq_true hv
  clear h hlen hwf hdr hc hm
  go_enter Try.func8, Try.ntmps8
  go_upto_region 1 with fail
  generalize w.alloc (.cells #[.int .u64 t, .int .i64 v, .slice a es.length cap] 26) = Y at *
  refine wp_region_noPanic ?_
  refine wp_region_lim (Cel3 ⟨w.heap.size, 0, none⟩ (.int .u64 t) ⟨w.heap.size, 1, none⟩ (.int .i64 v) ⟨w.heap.size, 2, none⟩ (.slice a es.length cap)) (fun i => decide (i < 30)) (fun i => false) (by kernel_rfl) (by kernel_rfl) (cel3_bel HC.out (Below.refl _ _).drew) (fun HT hS0 => ?_)
  have HB0 := Lib.hid (show Below Y.heap.size Y Y.drew from (Below.refl _ Y).drew)
  refine tkD HT 0 9 (v := ?_) ?_ ?_
  rotate_left
  · (intro w5 hSw; obtain ⟨q1, q2, q3⟩ := hSw; go_simp; (try with_reducible rfl))
  try simp only [s1, s2, s3]
  refine tkD HT 1 10 (v := ?_) ?_ ?_
  rotate_left
  · (intro w5 hSw; obtain ⟨q1, q2, q3⟩ := hSw; go_simp; (try with_reducible rfl))
  try simp only [s1, s2, s3]
  refine tkD HT 2 11 (v := ?_) ?_ ?_
  rotate_left
  · (intro w5 hSw; obtain ⟨q1, q2, q3⟩ := hSw; go_simp; (try with_reducible rfl))
  try simp only [s1, s2, s3]
  refine tkD HT 3 12 (v := ?_) ?_ ?_
  rotate_left
  · (intro w5 hSw; obtain ⟨q1, q2, q3⟩ := hSw; go_simp; (try with_reducible rfl))
  try simp only [s1, s2, s3]
  refine tkD HT 4 13 (v := ?_) ?_ ?_
  rotate_left
  · (intro w5 hSw; obtain ⟨q1, q2, q3⟩ := hSw; go_simp; (try with_reducible rfl))
  try simp only [s1, s2, s3]
  refine tkD HT 5 14 (v := ?_) ?_ ?_
  rotate_left
  · (intro w5 hSw; obtain ⟨q1, q2, q3⟩ := hSw; go_simp; (try with_reducible rfl))
  try simp only [s1, s2, s3]
  refine tkD HT 6 15 (v := ?_) ?_ ?_
  rotate_left
  · (intro w5 hSw; obtain ⟨q1, q2, q3⟩ := hSw; go_simp; (try with_reducible rfl))
  try simp only [s1, s2, s3]
  refine tkD HT 7 16 (v := ?_) ?_ ?_
  rotate_left
  · (intro w5 hSw; obtain ⟨q1, q2, q3⟩ := hSw; go_simp; (try with_reducible rfl))
  try simp only [s1, s2, s3]
  refine tkD HT 8 17 (v := ?_) ?_ ?_
  rotate_left
  · (intro w5 hSw; obtain ⟨q1, q2, q3⟩ := hSw; go_simp; (try with_reducible rfl))
  try simp only [s1, s2, s3]
  refine tkS 9 (fun K5 hK => ?_)
  go_simp
  go_at_call 9
  refine (HCK.out _ HB0.out).mono ?_
  rintro e w7 ⟨rfl, hb7⟩
  have HB7 := Lib.hid (grew_trans HB0.out hb7)
  clear hb7
  dsimp only
  refine hK.out _ _ (cel3_bel HC.out HB7.out) (fun hS1 => ?_)
  clear hK K5
  try simp only [Act.put, s1, s2, s3]
  refine tkD HT 10 19 (v := ?_) ?_ ?_
  rotate_left
  · (intro w5 hSw; obtain ⟨q1, q2, q3⟩ := hSw; go_simp; (try with_reducible rfl))
  try simp only [s1, s2, s3]
  refine tkD HT 11 20 (v := ?_) ?_ ?_
  rotate_left
  · (intro w5 hSw; obtain ⟨q1, q2, q3⟩ := hSw; go_simp; (try with_reducible rfl))
  try simp only [s1, s2, s3]
  refine tkD HT 12 21 (v := ?_) ?_ ?_
  rotate_left
  · (intro w5 hSw; obtain ⟨q1, q2, q3⟩ := hSw; go_simp; (try with_reducible rfl))
  try simp only [s1, s2, s3]
  refine tkD HT 13 22 (v := ?_) ?_ ?_
  rotate_left
  · (intro w5 hSw; obtain ⟨q1, q2, q3⟩ := hSw; go_simp; (try with_reducible rfl))
  try simp only [s1, s2, s3]
  refine tkD HT 14 23 (v := ?_) ?_ ?_
  rotate_left
  · (intro w5 hSw; obtain ⟨q1, q2, q3⟩ := hSw; go_simp; (try with_reducible rfl))
  try simp only [s1, s2, s3]
  refine tkD HT 15 24 (v := ?_) ?_ ?_
  rotate_left
  · (intro w5 hSw; obtain ⟨q1, q2, q3⟩ := hSw; go_simp; (try with_reducible rfl))
  try simp only [s1, s2, s3]
  refine tkD HT 16 25 (v := ?_) ?_ ?_
  rotate_left
  · (intro w5 hSw; obtain ⟨q1, q2, q3⟩ := hSw; go_simp; (try with_reducible rfl))
  try simp only [s1, s2, s3]
  refine tkD HT 17 26 (v := ?_) ?_ ?_
  rotate_left
  · (intro w5 hSw; obtain ⟨q1, q2, q3⟩ := hSw; go_simp; (try with_reducible rfl))
  try simp only [s1, s2, s3]
  refine tkN HT 18 27 ?_
  try simp only [s1, s2, s3]
  refine tkN HT 19 28 ?_
  try simp only [s1, s2, s3]
  refine tkN HT 20 29 ?_
  try simp only [s1, s2, s3]
  refine tkD HT 21 30 (v := ?_) ?_ ?_
  rotate_left
  · (intro w5 hSw; obtain ⟨q1, q2, q3⟩ := hSw; go_simp; (try with_reducible rfl))
  try simp only [s1, s2, s3]
  refine tkD HT 22 31 (v := ?_) ?_ ?_
  rotate_left
  · (intro w5 hSw; obtain ⟨q1, q2, q3⟩ := hSw; go_simp; (try with_reducible rfl))
  try simp only [s1, s2, s3]
  refine tkN HT 23 32 ?_
  try simp only [s1, s2, s3]
  refine tkN HT 24 33 ?_
  try simp only [s1, s2, s3]
  refine tkN HT 25 34 ?_
  try simp only [s1, s2, s3]
  refine tkN HT 26 35 ?_
  try simp only [s1, s2, s3]
  refine tkS 27 (fun K5 hK => ?_)
  go_simp
  refine hK.out _ _ (cel3_bel HC.out HB7.out) (fun hS1 => ?_)
  clear hK K5
  try simp only [Act.put, s1, s2, s3]
  refine tkN HT 28 37 ?_
  try simp only [s1, s2, s3]
  refine tkD HT 29 38 (v := ?_) ?_ ?_
  rotate_left
  · (intro w5 hSw; obtain ⟨q1, q2, q3⟩ := hSw; go_simp; (try with_reducible rfl))
  try simp only [s1, s2, s3]
  refine wpAnyM_done (by kernel_rfl) (NoPanic.normal ?_)
  go_wp2
  go_ret
  exact ⟨rfl, HW.out.trans (HB7.out.mono HW.out.size)⟩
set_option linter.unusedSimpArgs false in
set_option linter.unusedVariables false in
set_option maxHeartbeats 8000000 in
set_option maxRecDepth 100000 in
theorem new_E {w : World} (me t v clock draw : Int) (a : Option Addr) (cap : Nat) (es : List Ent) (h : Sl w a cap es) (hlen : es.length ≤ 1000) (hwf : ∀ i, i < es.length → wfE (es.getD i default)) (hdr : I64 draw) (hm : 0 ≤ me ∧ me < 3) (hc : checkE es = 0) (hv : 3 ≤ v) :
    Calls Try.prog 8 #[.int .i64 me, .agg #[.int .u64 t, .int .i64 v, .slice a es.length cap], .int .i64 clock, .int .i64 draw] w (NilP w) := by
  have mixed : Try.prog.follows .mixedOrders = true := by kernel_rfl
  have HW := Lib.hid (bel1 w (.cells #[.int .u64 t, .int .i64 v, .slice a es.length cap] 26))
  have HBL := Lib.hid (heap_alloc_new w (.cells #[.int .u64 t, .int .i64 v, .slice a es.length cap] 26))
  have HC := Lib.hid (show (Cel3 ⟨w.heap.size, 0, none⟩ (.int .u64 t) ⟨w.heap.size, 1, none⟩ (.int .i64 v) ⟨w.heap.size, 2, none⟩ (.slice a es.length cap)) (w.alloc (.cells #[.int .u64 t, .int .i64 v, .slice a es.length cap] 26)) from ⟨(cell_of HBL.out 0 rfl).1, (cell_of HBL.out 1 rfl).1, (cell_of HBL.out 2 rfl).1⟩)
  have HSL := Lib.hid (h.below HW.out)
  have HI := Lib.hid (And.intro hlen (And.intro hwf hdr))
  have hd0 : decide (me < 0) = false := decide_eq_false (by omega)
  have hd1 : decide (3 ≤ me) = false := decide_eq_false (by omega)
  have hm1 : 0 ≤ me := hm.1
  have hm2 : me < 3 := hm.2
  have HCK := Lib.hid (fun W (hb : Below (w.alloc (.cells #[.int .u64 t, .int .i64 v, .slice a es.length cap] 26)).heap.size (w.alloc (.cells #[.int .u64 t, .int .i64 v, .slice a es.length cap] 26)) W) => check_any a cap es W (ents_below HSL.out.ents hb) (by unfold maxLen; omega) hwf)
  rw [hc] at HCK
  have hv1 : -1 ≤ v := by omega
  have hd2 : decide (v < -1) = false := decide_eq_false (by omega)
  have hd3 : decide (3 ≤ v) = true := decide_eq_true hv
  clear h hlen hwf hdr hc hm
  go_enter Try.func8, Try.ntmps8
  go_upto_region 1 with fail
  generalize w.alloc (.cells #[.int .u64 t, .int .i64 v, .slice a es.length cap] 26) = Y at *
  refine wp_region_noPanic ?_
  refine wp_region_lim (Cel3 ⟨w.heap.size, 0, none⟩ (.int .u64 t) ⟨w.heap.size, 1, none⟩ (.int .i64 v) ⟨w.heap.size, 2, none⟩ (.slice a es.length cap)) (fun i => decide (i < 30)) (fun i => false) (by kernel_rfl) (by kernel_rfl) (cel3_bel HC.out (Below.refl _ _).drew) (fun HT hS0 => ?_)
  have HB0 := Lib.hid (show Below Y.heap.size Y Y.drew from (Below.refl _ Y).drew)
  refine tkD HT 0 9 (v := ?_) ?_ ?_
  rotate_left
  · (intro w5 hSw; obtain ⟨q1, q2, q3⟩ := hSw; go_simp; (try with_reducible rfl))
  try simp only [s1, s2, s3]
  refine tkD HT 1 10 (v := ?_) ?_ ?_
  rotate_left
  · (intro w5 hSw; obtain ⟨q1, q2, q3⟩ := hSw; go_simp; (try with_reducible rfl))
  try simp only [s1, s2, s3]
  refine tkD HT 2 11 (v := ?_) ?_ ?_
  rotate_left
  · (intro w5 hSw; obtain ⟨q1, q2, q3⟩ := hSw; go_simp; (try with_reducible rfl))
  try simp only [s1, s2, s3]
  refine tkD HT 3 12 (v := ?_) ?_ ?_
  rotate_left
  · (intro w5 hSw; obtain ⟨q1, q2, q3⟩ := hSw; go_simp; (try with_reducible rfl))
  try simp only [s1, s2, s3]
  refine tkD HT 4 13 (v := ?_) ?_ ?_
  rotate_left
  · (intro w5 hSw; obtain ⟨q1, q2, q3⟩ := hSw; go_simp; (try with_reducible rfl))
  try simp only [s1, s2, s3]
  refine tkD HT 5 14 (v := ?_) ?_ ?_
  rotate_left
  · (intro w5 hSw; obtain ⟨q1, q2, q3⟩ := hSw; go_simp; (try with_reducible rfl))
  try simp only [s1, s2, s3]
  refine tkD HT 6 15 (v := ?_) ?_ ?_
  rotate_left
  · (intro w5 hSw; obtain ⟨q1, q2, q3⟩ := hSw; go_simp; (try with_reducible rfl))
  try simp only [s1, s2, s3]
  refine tkD HT 7 16 (v := ?_) ?_ ?_
  rotate_left
  · (intro w5 hSw; obtain ⟨q1, q2, q3⟩ := hSw; go_simp; (try with_reducible rfl))
  try simp only [s1, s2, s3]
  refine tkD HT 8 17 (v := ?_) ?_ ?_
  rotate_left
  · (intro w5 hSw; obtain ⟨q1, q2, q3⟩ := hSw; go_simp; (try with_reducible rfl))
  try simp only [s1, s2, s3]
  refine tkS 9 (fun K5 hK => ?_)
  go_simp
  go_at_call 9
  refine (HCK.out _ HB0.out).mono ?_
  rintro e w7 ⟨rfl, hb7⟩
  have HB7 := Lib.hid (grew_trans HB0.out hb7)
  clear hb7
  dsimp only
  refine hK.out _ _ (cel3_bel HC.out HB7.out) (fun hS1 => ?_)
  clear hK K5
  try simp only [Act.put, s1, s2, s3]
  refine tkD HT 10 19 (v := ?_) ?_ ?_
  rotate_left
  · (intro w5 hSw; obtain ⟨q1, q2, q3⟩ := hSw; go_simp; (try with_reducible rfl))
  try simp only [s1, s2, s3]
  refine tkD HT 11 20 (v := ?_) ?_ ?_
  rotate_left
  · (intro w5 hSw; obtain ⟨q1, q2, q3⟩ := hSw; go_simp; (try with_reducible rfl))
  try simp only [s1, s2, s3]
  refine tkD HT 12 21 (v := ?_) ?_ ?_
  rotate_left
  · (intro w5 hSw; obtain ⟨q1, q2, q3⟩ := hSw; go_simp; (try with_reducible rfl))
  try simp only [s1, s2, s3]
  refine tkD HT 13 22 (v := ?_) ?_ ?_
  rotate_left
  · (intro w5 hSw; obtain ⟨q1, q2, q3⟩ := hSw; go_simp; (try with_reducible rfl))
  try simp only [s1, s2, s3]
  refine tkD HT 14 23 (v := ?_) ?_ ?_
  rotate_left
  · (intro w5 hSw; obtain ⟨q1, q2, q3⟩ := hSw; go_simp; (try with_reducible rfl))
  try simp only [s1, s2, s3]
  refine tkD HT 15 24 (v := ?_) ?_ ?_
  rotate_left
  · (intro w5 hSw; obtain ⟨q1, q2, q3⟩ := hSw; go_simp; (try with_reducible rfl))
  try simp only [s1, s2, s3]
  refine tkD HT 16 25 (v := ?_) ?_ ?_
  rotate_left
  · (intro w5 hSw; obtain ⟨q1, q2, q3⟩ := hSw; go_simp; (try with_reducible rfl))
  try simp only [s1, s2, s3]
  refine tkD HT 17 26 (v := ?_) ?_ ?_
  rotate_left
  · (intro w5 hSw; obtain ⟨q1, q2, q3⟩ := hSw; go_simp; (try with_reducible rfl))
  try simp only [s1, s2, s3]
  refine tkD HT 18 27 (v := ?_) ?_ ?_
  rotate_left
  · (intro w5 hSw; obtain ⟨q1, q2, q3⟩ := hSw; go_simp; (try with_reducible rfl))
  try simp only [s1, s2, s3]
  refine tkD HT 19 28 (v := ?_) ?_ ?_
  rotate_left
  · (intro w5 hSw; obtain ⟨q1, q2, q3⟩ := hSw; go_simp; (try with_reducible rfl))
  try simp only [s1, s2, s3]
  refine tkD HT 20 29 (v := ?_) ?_ ?_
  rotate_left
  · (intro w5 hSw; obtain ⟨q1, q2, q3⟩ := hSw; go_simp; (try with_reducible rfl))
  try simp only [s1, s2, s3]
  refine tkD HT 21 30 (v := ?_) ?_ ?_
  rotate_left
  · (intro w5 hSw; obtain ⟨q1, q2, q3⟩ := hSw; go_simp; (try with_reducible rfl))
  try simp only [s1, s2, s3]
  refine tkD HT 22 31 (v := ?_) ?_ ?_
  rotate_left
  · (intro w5 hSw; obtain ⟨q1, q2, q3⟩ := hSw; go_simp; (try with_reducible rfl))
  try simp only [s1, s2, s3]
  refine tkN HT 23 32 ?_
  try simp only [s1, s2, s3]
  refine tkN HT 24 33 ?_
  try simp only [s1, s2, s3]
  refine tkN HT 25 34 ?_
  try simp only [s1, s2, s3]
  refine tkN HT 26 35 ?_
  try simp only [s1, s2, s3]
  refine tkS 27 (fun K5 hK => ?_)
  go_simp
  refine hK.out _ _ (cel3_bel HC.out HB7.out) (fun hS1 => ?_)
  clear hK K5
  try simp only [Act.put, s1, s2, s3]
  refine tkN HT 28 37 ?_
  try simp only [s1, s2, s3]
  refine tkD HT 29 38 (v := ?_) ?_ ?_
  rotate_left
  · (intro w5 hSw; obtain ⟨q1, q2, q3⟩ := hSw; go_simp; (try with_reducible rfl))
  try simp only [s1, s2, s3]
  refine wpAnyM_done (by kernel_rfl) (NoPanic.normal ?_)
  go_wp2
  go_ret
  exact ⟨rfl, HW.out.trans (HB7.out.mono HW.out.size)⟩
set_option linter.unusedSimpArgs false in
set_option linter.unusedVariables false in
set_option maxHeartbeats 8000000 in
set_option maxRecDepth 100000 in
theorem new_F {w : World} (me t v clock draw : Int) (a : Option Addr) (cap : Nat) (es : List Ent) (h : Sl w a cap es) (hlen : es.length ≤ 1000) (hwf : ∀ i, i < es.length → wfE (es.getD i default)) (hdr : I64 draw) (hm : 0 ≤ me ∧ me < 3) (hc : checkE es = 0) (hv : -1 ≤ v ∧ v < 3) (ht : t < lastT es) :
    Calls Try.prog 8 #[.int .i64 me, .agg #[.int .u64 t, .int .i64 v, .slice a es.length cap], .int .i64 clock, .int .i64 draw] w (NilP w) := by
  have mixed : Try.prog.follows .mixedOrders = true := by kernel_rfl
  have HW := Lib.hid (bel1 w (.cells #[.int .u64 t, .int .i64 v, .slice a es.length cap] 26))
  have HBL := Lib.hid (heap_alloc_new w (.cells #[.int .u64 t, .int .i64 v, .slice a es.length cap] 26))
  have HC := Lib.hid (show (Cel3 ⟨w.heap.size, 0, none⟩ (.int .u64 t) ⟨w.heap.size, 1, none⟩ (.int .i64 v) ⟨w.heap.size, 2, none⟩ (.slice a es.length cap)) (w.alloc (.cells #[.int .u64 t, .int .i64 v, .slice a es.length cap] 26)) from ⟨(cell_of HBL.out 0 rfl).1, (cell_of HBL.out 1 rfl).1, (cell_of HBL.out 2 rfl).1⟩)
  have HSL := Lib.hid (h.below HW.out)
  have HI := Lib.hid (And.intro hlen (And.intro hwf hdr))
  have hd0 : decide (me < 0) = false := decide_eq_false (by omega)
  have hd1 : decide (3 ≤ me) = false := decide_eq_false (by omega)
  have hm1 : 0 ≤ me := hm.1
  have hm2 : me < 3 := hm.2
  have HCK := Lib.hid (fun W (hb : Below (w.alloc (.cells #[.int .u64 t, .int .i64 v, .slice a es.length cap] 26)).heap.size (w.alloc (.cells #[.int .u64 t, .int .i64 v, .slice a es.length cap] 26)) W) => check_any a cap es W (ents_below HSL.out.ents hb) (by unfold maxLen; omega) hwf)
  rw [hc] at HCK
  have HLA := Lib.hid (fun W (hb : Below (w.alloc (.cells #[.int .u64 t, .int .i64 v, .slice a es.length cap] 26)).heap.size (w.alloc (.cells #[.int .u64 t, .int .i64 v, .slice a es.length cap] 26)) W) => clast_any a cap es W (ents_below HSL.out.ents hb) (by unfold maxLen; omega))
  have hd2 : decide (v < -1) = false := decide_eq_false (by omega)
  have hd3 : decide (3 ≤ v) = false := decide_eq_false (by omega)
  have hv1 : -1 ≤ v := by omega
  have hv2 : v < 3 := by omega
  obtain ⟨lt, hlt⟩ : ∃ lt, lt = lastT es := ⟨_, rfl⟩
  rw [← hlt] at ht HLA
  have htb : decide (t < lt) = true := decide_eq_true ht
  clear hlt
  clear h hlen hwf hdr hc hm
  go_enter Try.func8, Try.ntmps8
  go_upto_region 1 with fail
  generalize w.alloc (.cells #[.int .u64 t, .int .i64 v, .slice a es.length cap] 26) = Y at *
  refine wp_region_noPanic ?_
  refine wp_region_lim (Cel3 ⟨w.heap.size, 0, none⟩ (.int .u64 t) ⟨w.heap.size, 1, none⟩ (.int .i64 v) ⟨w.heap.size, 2, none⟩ (.slice a es.length cap)) (fun i => decide (i < 30)) (fun i => false) (by kernel_rfl) (by kernel_rfl) (cel3_bel HC.out (Below.refl _ _).drew) (fun HT hS0 => ?_)
  have HB0 := Lib.hid (show Below Y.heap.size Y Y.drew from (Below.refl _ Y).drew)
  refine tkD HT 0 9 (v := ?_) ?_ ?_
  rotate_left
  · (intro w5 hSw; obtain ⟨q1, q2, q3⟩ := hSw; go_simp; (try with_reducible rfl))
  try simp only [s1, s2, s3]
  refine tkD HT 1 10 (v := ?_) ?_ ?_
  rotate_left
  · (intro w5 hSw; obtain ⟨q1, q2, q3⟩ := hSw; go_simp; (try with_reducible rfl))
  try simp only [s1, s2, s3]
  refine tkD HT 2 11 (v := ?_) ?_ ?_
  rotate_left
  · (intro w5 hSw; obtain ⟨q1, q2, q3⟩ := hSw; go_simp; (try with_reducible rfl))
  try simp only [s1, s2, s3]
  refine tkD HT 3 12 (v := ?_) ?_ ?_
  rotate_left
  · (intro w5 hSw; obtain ⟨q1, q2, q3⟩ := hSw; go_simp; (try with_reducible rfl))
  try simp only [s1, s2, s3]
  refine tkD HT 4 13 (v := ?_) ?_ ?_
  rotate_left
  · (intro w5 hSw; obtain ⟨q1, q2, q3⟩ := hSw; go_simp; (try with_reducible rfl))
  try simp only [s1, s2, s3]
  refine tkD HT 5 14 (v := ?_) ?_ ?_
  rotate_left
  · (intro w5 hSw; obtain ⟨q1, q2, q3⟩ := hSw; go_simp; (try with_reducible rfl))
  try simp only [s1, s2, s3]
  refine tkD HT 6 15 (v := ?_) ?_ ?_
  rotate_left
  · (intro w5 hSw; obtain ⟨q1, q2, q3⟩ := hSw; go_simp; (try with_reducible rfl))
  try simp only [s1, s2, s3]
  refine tkD HT 7 16 (v := ?_) ?_ ?_
  rotate_left
  · (intro w5 hSw; obtain ⟨q1, q2, q3⟩ := hSw; go_simp; (try with_reducible rfl))
  try simp only [s1, s2, s3]
  refine tkD HT 8 17 (v := ?_) ?_ ?_
  rotate_left
  · (intro w5 hSw; obtain ⟨q1, q2, q3⟩ := hSw; go_simp; (try with_reducible rfl))
  try simp only [s1, s2, s3]
  refine tkS 9 (fun K5 hK => ?_)
  go_simp
  go_at_call 9
  refine (HCK.out _ HB0.out).mono ?_
  rintro e w7 ⟨rfl, hb7⟩
  have HB7 := Lib.hid (grew_trans HB0.out hb7)
  clear hb7
  dsimp only
  refine hK.out _ _ (cel3_bel HC.out HB7.out) (fun hS1 => ?_)
  clear hK K5
  try simp only [Act.put, s1, s2, s3]
  refine tkD HT 10 19 (v := ?_) ?_ ?_
  rotate_left
  · (intro w5 hSw; obtain ⟨q1, q2, q3⟩ := hSw; go_simp; (try with_reducible rfl))
  try simp only [s1, s2, s3]
  refine tkD HT 11 20 (v := ?_) ?_ ?_
  rotate_left
  · (intro w5 hSw; obtain ⟨q1, q2, q3⟩ := hSw; go_simp; (try with_reducible rfl))
  try simp only [s1, s2, s3]
  refine tkD HT 12 21 (v := ?_) ?_ ?_
  rotate_left
  · (intro w5 hSw; obtain ⟨q1, q2, q3⟩ := hSw; go_simp; (try with_reducible rfl))
  try simp only [s1, s2, s3]
  refine tkD HT 13 22 (v := ?_) ?_ ?_
  rotate_left
  · (intro w5 hSw; obtain ⟨q1, q2, q3⟩ := hSw; go_simp; (try with_reducible rfl))
  try simp only [s1, s2, s3]
  refine tkD HT 14 23 (v := ?_) ?_ ?_
  rotate_left
  · (intro w5 hSw; obtain ⟨q1, q2, q3⟩ := hSw; go_simp; (try with_reducible rfl))
  try simp only [s1, s2, s3]
  refine tkD HT 15 24 (v := ?_) ?_ ?_
  rotate_left
  · (intro w5 hSw; obtain ⟨q1, q2, q3⟩ := hSw; go_simp; (try with_reducible rfl))
  try simp only [s1, s2, s3]
  refine tkD HT 16 25 (v := ?_) ?_ ?_
  rotate_left
  · (intro w5 hSw; obtain ⟨q1, q2, q3⟩ := hSw; go_simp; (try with_reducible rfl))
  try simp only [s1, s2, s3]
  refine tkD HT 17 26 (v := ?_) ?_ ?_
  rotate_left
  · (intro w5 hSw; obtain ⟨q1, q2, q3⟩ := hSw; go_simp; (try with_reducible rfl))
  try simp only [s1, s2, s3]
  refine tkD HT 18 27 (v := ?_) ?_ ?_
  rotate_left
  · (intro w5 hSw; obtain ⟨q1, q2, q3⟩ := hSw; go_simp; (try with_reducible rfl))
  try simp only [s1, s2, s3]
  refine tkD HT 19 28 (v := ?_) ?_ ?_
  rotate_left
  · (intro w5 hSw; obtain ⟨q1, q2, q3⟩ := hSw; go_simp; (try with_reducible rfl))
  try simp only [s1, s2, s3]
  refine tkD HT 20 29 (v := ?_) ?_ ?_
  rotate_left
  · (intro w5 hSw; obtain ⟨q1, q2, q3⟩ := hSw; go_simp; (try with_reducible rfl))
  try simp only [s1, s2, s3]
  refine tkD HT 21 30 (v := ?_) ?_ ?_
  rotate_left
  · (intro w5 hSw; obtain ⟨q1, q2, q3⟩ := hSw; go_simp; (try with_reducible rfl))
  try simp only [s1, s2, s3]
  refine tkD HT 22 31 (v := ?_) ?_ ?_
  rotate_left
  · (intro w5 hSw; obtain ⟨q1, q2, q3⟩ := hSw; go_simp; (try with_reducible rfl))
  try simp only [s1, s2, s3]
  refine tkD HT 23 32 (v := ?_) ?_ ?_
  rotate_left
  · (intro w5 hSw; obtain ⟨q1, q2, q3⟩ := hSw; go_simp; (try with_reducible rfl))
  try simp only [s1, s2, s3]
  refine tkD HT 24 33 (v := ?_) ?_ ?_
  rotate_left
  · (intro w5 hSw; obtain ⟨q1, q2, q3⟩ := hSw; go_simp; (try with_reducible rfl))
  try simp only [s1, s2, s3]
  refine tkD HT 25 34 (v := ?_) ?_ ?_
  rotate_left
  · (intro w5 hSw; obtain ⟨q1, q2, q3⟩ := hSw; go_simp; (try with_reducible rfl))
  try simp only [s1, s2, s3]
  refine tkD HT 26 35 (v := ?_) ?_ ?_
  rotate_left
  · (intro w5 hSw; obtain ⟨q1, q2, q3⟩ := hSw; go_simp; (try with_reducible rfl))
  try simp only [s1, s2, s3]
  refine tkS 27 (fun K5 hK => ?_)
  go_simp
  go_at_call 28
  refine (HLA.out _ HB7.out).mono ?_
  rintro e w6 ⟨rfl, rfl⟩
  dsimp only
  refine hK.out _ _ (cel3_bel HC.out HB7.out) (fun hS1 => ?_)
  clear hK K5
  try simp only [Act.put, s1, s2, s3]
  refine tkD HT 28 37 (v := ?_) ?_ ?_
  rotate_left
  · (intro w5 hSw; obtain ⟨q1, q2, q3⟩ := hSw; go_simp; (try with_reducible rfl))
  try simp only [s1, s2, s3]
  refine tkD HT 29 38 (v := ?_) ?_ ?_
  rotate_left
  · (intro w5 hSw; obtain ⟨q1, q2, q3⟩ := hSw; go_simp; (try with_reducible rfl))
  try simp only [s1, s2, s3]
  refine wpAnyM_done (by kernel_rfl) (NoPanic.normal ?_)
  go_wp2
  go_ret
  exact ⟨rfl, HW.out.trans (HB7.out.mono HW.out.size)⟩
set_option linter.unusedSimpArgs false in
set_option linter.unusedVariables false in
set_option maxHeartbeats 8000000 in
set_option maxRecDepth 100000 in
theorem new_ok {w : World} (me t v clock draw : Int) (a : Option Addr) (cap : Nat) (es : List Ent) (h : Sl w a cap es) (hlen : es.length ≤ 1000) (hwf : ∀ i, i < es.length → wfE (es.getD i default)) (hdr : I64 draw) (hm : 0 ≤ me ∧ me < 3) (hc : checkE es = 0) (hv : -1 ≤ v ∧ v < 3) (ht : lastT es ≤ t) :
    Calls Try.prog 8 #[.int .i64 me, .agg #[.int .u64 t, .int .i64 v, .slice a es.length cap], .int .i64 clock, .int .i64 draw] w (NewP (newC me t v es clock draw) w) := by
  have mixed : Try.prog.follows .mixedOrders = true := by kernel_rfl
  have HW := Lib.hid (bel1 w (.cells #[.int .u64 t, .int .i64 v, .slice a es.length cap] 26))
  have HBL := Lib.hid (heap_alloc_new w (.cells #[.int .u64 t, .int .i64 v, .slice a es.length cap] 26))
  have HC := Lib.hid (show (Cel3 ⟨w.heap.size, 0, none⟩ (.int .u64 t) ⟨w.heap.size, 1, none⟩ (.int .i64 v) ⟨w.heap.size, 2, none⟩ (.slice a es.length cap)) (w.alloc (.cells #[.int .u64 t, .int .i64 v, .slice a es.length cap] 26)) from ⟨(cell_of HBL.out 0 rfl).1, (cell_of HBL.out 1 rfl).1, (cell_of HBL.out 2 rfl).1⟩)
  have HSL := Lib.hid (h.below HW.out)
  have HI := Lib.hid (And.intro hlen (And.intro hwf hdr))
  have hd0 : decide (me < 0) = false := decide_eq_false (by omega)
  have hd1 : decide (3 ≤ me) = false := decide_eq_false (by omega)
  have hm1 : 0 ≤ me := hm.1
  have hm2 : me < 3 := hm.2
  have HCK := Lib.hid (fun W (hb : Below (w.alloc (.cells #[.int .u64 t, .int .i64 v, .slice a es.length cap] 26)).heap.size (w.alloc (.cells #[.int .u64 t, .int .i64 v, .slice a es.length cap] 26)) W) => check_any a cap es W (ents_below HSL.out.ents hb) (by unfold maxLen; omega) hwf)
  rw [hc] at HCK
  have HLA := Lib.hid (fun W (hb : Below (w.alloc (.cells #[.int .u64 t, .int .i64 v, .slice a es.length cap] 26)).heap.size (w.alloc (.cells #[.int .u64 t, .int .i64 v, .slice a es.length cap] 26)) W) => clast_any a cap es W (ents_below HSL.out.ents hb) (by unfold maxLen; omega))
  have hd2 : decide (v < -1) = false := decide_eq_false (by omega)
  have hd3 : decide (3 ≤ v) = false := decide_eq_false (by omega)
  have hv1 : -1 ≤ v := by omega
  have hv2 : v < 3 := by omega
  obtain ⟨lt, hlt⟩ : ∃ lt, lt = lastT es := ⟨_, rfl⟩
  rw [← hlt] at ht HLA
  have htb : decide (t < lt) = false := decide_eq_false (by omega)
  clear hlt
  have HOA := Lib.hid (fun W (hb : Below (w.alloc (.cells #[.int .u64 t, .int .i64 v, .slice a es.length cap] 26)).heap.size (w.alloc (.cells #[.int .u64 t, .int .i64 v, .slice a es.length cap] 26)) W) => own_any (w := W) t v a es.length cap es rfl (HSL.out.below hb) (by omega))
  have HTO := Lib.hid (fun W => timeout_any draw W hdr.1 hdr.2)
  clear h hlen hwf hdr hc hm
  go_enter Try.func8, Try.ntmps8
  go_upto_region 1 with fail
  generalize w.alloc (.cells #[.int .u64 t, .int .i64 v, .slice a es.length cap] 26) = Y at *
  refine wp_region_noPanic ?_
  refine wp_region_lim (Cel3 ⟨w.heap.size, 0, none⟩ (.int .u64 t) ⟨w.heap.size, 1, none⟩ (.int .i64 v) ⟨w.heap.size, 2, none⟩ (.slice a es.length cap)) (fun i => decide (i < 30)) (fun i => false) (by kernel_rfl) (by kernel_rfl) (cel3_bel HC.out (Below.refl _ _).drew) (fun HT hS0 => ?_)
  have HB0 := Lib.hid (show Below Y.heap.size Y Y.drew from (Below.refl _ Y).drew)
  refine tkD HT 0 9 (v := ?_) ?_ ?_
  rotate_left
  · (intro w5 hSw; obtain ⟨q1, q2, q3⟩ := hSw; go_simp; (try with_reducible rfl))
  try simp only [s1, s2, s3]
  refine tkD HT 1 10 (v := ?_) ?_ ?_
  rotate_left
  · (intro w5 hSw; obtain ⟨q1, q2, q3⟩ := hSw; go_simp; (try with_reducible rfl))
  try simp only [s1, s2, s3]
  refine tkD HT 2 11 (v := ?_) ?_ ?_
  rotate_left
  · (intro w5 hSw; obtain ⟨q1, q2, q3⟩ := hSw; go_simp; (try with_reducible rfl))
  try simp only [s1, s2, s3]
  refine tkD HT 3 12 (v := ?_) ?_ ?_
  rotate_left
  · (intro w5 hSw; obtain ⟨q1, q2, q3⟩ := hSw; go_simp; (try with_reducible rfl))
  try simp only [s1, s2, s3]
  refine tkD HT 4 13 (v := ?_) ?_ ?_
  rotate_left
  · (intro w5 hSw; obtain ⟨q1, q2, q3⟩ := hSw; go_simp; (try with_reducible rfl))
  try simp only [s1, s2, s3]
  refine tkD HT 5 14 (v := ?_) ?_ ?_
  rotate_left
  · (intro w5 hSw; obtain ⟨q1, q2, q3⟩ := hSw; go_simp; (try with_reducible rfl))
  try simp only [s1, s2, s3]
  refine tkD HT 6 15 (v := ?_) ?_ ?_
  rotate_left
  · (intro w5 hSw; obtain ⟨q1, q2, q3⟩ := hSw; go_simp; (try with_reducible rfl))
  try simp only [s1, s2, s3]
  refine tkD HT 7 16 (v := ?_) ?_ ?_
  rotate_left
  · (intro w5 hSw; obtain ⟨q1, q2, q3⟩ := hSw; go_simp; (try with_reducible rfl))
  try simp only [s1, s2, s3]
  refine tkD HT 8 17 (v := ?_) ?_ ?_
  rotate_left
  · (intro w5 hSw; obtain ⟨q1, q2, q3⟩ := hSw; go_simp; (try with_reducible rfl))
  try simp only [s1, s2, s3]
  refine tkS 9 (fun K5 hK => ?_)
  go_simp
  go_at_call 9
  refine (HCK.out _ HB0.out).mono ?_
  rintro e w7 ⟨rfl, hb7⟩
  have HB7 := Lib.hid (grew_trans HB0.out hb7)
  clear hb7
  dsimp only
  refine hK.out _ _ (cel3_bel HC.out HB7.out) (fun hS1 => ?_)
  clear hK K5
  try simp only [Act.put, s1, s2, s3]
  refine tkD HT 10 19 (v := ?_) ?_ ?_
  rotate_left
  · (intro w5 hSw; obtain ⟨q1, q2, q3⟩ := hSw; go_simp; (try with_reducible rfl))
  try simp only [s1, s2, s3]
  refine tkD HT 11 20 (v := ?_) ?_ ?_
  rotate_left
  · (intro w5 hSw; obtain ⟨q1, q2, q3⟩ := hSw; go_simp; (try with_reducible rfl))
  try simp only [s1, s2, s3]
  refine tkD HT 12 21 (v := ?_) ?_ ?_
  rotate_left
  · (intro w5 hSw; obtain ⟨q1, q2, q3⟩ := hSw; go_simp; (try with_reducible rfl))
  try simp only [s1, s2, s3]
  refine tkD HT 13 22 (v := ?_) ?_ ?_
  rotate_left
  · (intro w5 hSw; obtain ⟨q1, q2, q3⟩ := hSw; go_simp; (try with_reducible rfl))
  try simp only [s1, s2, s3]
  refine tkD HT 14 23 (v := ?_) ?_ ?_
  rotate_left
  · (intro w5 hSw; obtain ⟨q1, q2, q3⟩ := hSw; go_simp; (try with_reducible rfl))
  try simp only [s1, s2, s3]
  refine tkD HT 15 24 (v := ?_) ?_ ?_
  rotate_left
  · (intro w5 hSw; obtain ⟨q1, q2, q3⟩ := hSw; go_simp; (try with_reducible rfl))
  try simp only [s1, s2, s3]
  refine tkD HT 16 25 (v := ?_) ?_ ?_
  rotate_left
  · (intro w5 hSw; obtain ⟨q1, q2, q3⟩ := hSw; go_simp; (try with_reducible rfl))
  try simp only [s1, s2, s3]
  refine tkD HT 17 26 (v := ?_) ?_ ?_
  rotate_left
  · (intro w5 hSw; obtain ⟨q1, q2, q3⟩ := hSw; go_simp; (try with_reducible rfl))
  try simp only [s1, s2, s3]
  refine tkD HT 18 27 (v := ?_) ?_ ?_
  rotate_left
  · (intro w5 hSw; obtain ⟨q1, q2, q3⟩ := hSw; go_simp; (try with_reducible rfl))
  try simp only [s1, s2, s3]
  refine tkD HT 19 28 (v := ?_) ?_ ?_
  rotate_left
  · (intro w5 hSw; obtain ⟨q1, q2, q3⟩ := hSw; go_simp; (try with_reducible rfl))
  try simp only [s1, s2, s3]
  refine tkD HT 20 29 (v := ?_) ?_ ?_
  rotate_left
  · (intro w5 hSw; obtain ⟨q1, q2, q3⟩ := hSw; go_simp; (try with_reducible rfl))
  try simp only [s1, s2, s3]
  refine tkD HT 21 30 (v := ?_) ?_ ?_
  rotate_left
  · (intro w5 hSw; obtain ⟨q1, q2, q3⟩ := hSw; go_simp; (try with_reducible rfl))
  try simp only [s1, s2, s3]
  refine tkD HT 22 31 (v := ?_) ?_ ?_
  rotate_left
  · (intro w5 hSw; obtain ⟨q1, q2, q3⟩ := hSw; go_simp; (try with_reducible rfl))
  try simp only [s1, s2, s3]
  refine tkD HT 23 32 (v := ?_) ?_ ?_
  rotate_left
  · (intro w5 hSw; obtain ⟨q1, q2, q3⟩ := hSw; go_simp; (try with_reducible rfl))
  try simp only [s1, s2, s3]
  refine tkD HT 24 33 (v := ?_) ?_ ?_
  rotate_left
  · (intro w5 hSw; obtain ⟨q1, q2, q3⟩ := hSw; go_simp; (try with_reducible rfl))
  try simp only [s1, s2, s3]
  refine tkD HT 25 34 (v := ?_) ?_ ?_
  rotate_left
  · (intro w5 hSw; obtain ⟨q1, q2, q3⟩ := hSw; go_simp; (try with_reducible rfl))
  try simp only [s1, s2, s3]
  refine tkD HT 26 35 (v := ?_) ?_ ?_
  rotate_left
  · (intro w5 hSw; obtain ⟨q1, q2, q3⟩ := hSw; go_simp; (try with_reducible rfl))
  try simp only [s1, s2, s3]
  refine tkS 27 (fun K5 hK => ?_)
  go_simp
  go_at_call 28
  refine (HLA.out _ HB7.out).mono ?_
  rintro e w6 ⟨rfl, rfl⟩
  dsimp only
  refine hK.out _ _ (cel3_bel HC.out HB7.out) (fun hS1 => ?_)
  clear hK K5
  try simp only [Act.put, s1, s2, s3]
  refine tkD HT 28 37 (v := ?_) ?_ ?_
  rotate_left
  · (intro w5 hSw; obtain ⟨q1, q2, q3⟩ := hSw; go_simp; (try with_reducible rfl))
  try simp only [s1, s2, s3]
  refine tkD HT 29 38 (v := ?_) ?_ ?_
  rotate_left
  · (intro w5 hSw; obtain ⟨q1, q2, q3⟩ := hSw; go_simp; (try with_reducible rfl))
  try simp only [s1, s2, s3]
  refine wpAnyM_done (by kernel_rfl) (NoPanic.normal ?_)
  have HBX := Lib.hid HB7.out
  have hbm := blk_below HBL.out HB7.out
  obtain ⟨Z, hZ⟩ : ∃ Z, Z = w7 := ⟨_, rfl⟩
  subst hZ
  go_upto_region 4 with (first
    | (with_reducible refine wpList_load_row rfl 26 (.tmp 5) rfl w.heap.size rfl 26 _ (0, 0) _ hbm Try.underlying26 rfl (by kernel_rfl) ?_)
    | (go_at_call 29; refine (HOA.out _ HBX.out).mono ?_; rintro e w8 ⟨a2, c2, rfl, ho, hb⟩; have HO := Lib.hid ho; have HB8 := Lib.hid hb; clear ho hb)
    | (go_at_call 30; refine (HTO.out _).mono ?_; rintro e w9 ⟨rfl, rfl⟩))
  go_ret
  have hb : Below w.heap.size w w8 := HW.out.trans ((HBX.out.trans (HB8.out.mono HBX.out.size)).mono HW.out.size)
  refine ⟨w8.heap.size, .slice a2 es.length c2, rfl, ⟨heap_alloc_new w8 _, hb.size, OwnE.mono (OwnE.bel HO.out (bel1 w8 _)) (by have := HBX.out.size; have := HW.out.size; omega), Nat.zero_le _⟩, hb.trans ((bel1 w8 _).mono hb.size)⟩
theorem new_yes {w : World} (me t v clock draw : Int) (a : Option Addr) (n cap : Nat) (es : List Ent) (hn : es.length = n) (h : Sl w a cap es) (hlen : es.length ≤ 1000) (hwf : ∀ i, i < es.length → wfE (es.getD i default)) (hdr : I64 draw) (hok : newOk me t v es = true) :
    Calls Try.prog 8 #[.int .i64 me, .agg #[.int .u64 t, .int .i64 v, .slice a n cap], .int .i64 clock, .int .i64 draw] w (NewP (newC me t v es clock draw) w) := by
  subst hn
  unfold newOk at hok
  simp only [Bool.and_eq_true, decide_eq_true_eq] at hok
  obtain ⟨⟨⟨⟨⟨h1, h2⟩, h3⟩, h4⟩, h5⟩, h6⟩ := hok
  exact new_ok me t v clock draw a cap es h hlen hwf hdr ⟨h1, h2⟩ h3 ⟨h4, h5⟩ h6
theorem new_no {w : World} (me t v clock draw : Int) (a : Option Addr) (n cap : Nat) (es : List Ent) (hn : es.length = n) (h : Sl w a cap es) (hlen : es.length ≤ 1000) (hwf : ∀ i, i < es.length → wfE (es.getD i default)) (hdr : I64 draw) (hok : newOk me t v es = false) :
    Calls Try.prog 8 #[.int .i64 me, .agg #[.int .u64 t, .int .i64 v, .slice a n cap], .int .i64 clock, .int .i64 draw] w (NilP w) := by
  subst hn
  by_cases hA : me < 0
  · exact new_A me t v clock draw a cap es h hlen hwf hdr hA
  by_cases hB : 3 ≤ me
  · exact new_B me t v clock draw a cap es h hlen hwf hdr hB
  by_cases hC : checkE es = 0
  · by_cases hD : v < -1
    · exact new_D me t v clock draw a cap es h hlen hwf hdr (by omega) hC hD
    by_cases hE : 3 ≤ v
    · exact new_E me t v clock draw a cap es h hlen hwf hdr (by omega) hC hE
    by_cases hF : t < lastT es
    · exact new_F me t v clock draw a cap es h hlen hwf hdr (by omega) hC (by omega) hF
    exfalso
    unfold newOk at hok
    have : (decide (0 ≤ me) && decide (me < 3) && decide (checkE es = 0) && decide (-1 ≤ v) && decide (v < 3) && decide (lastT es ≤ t)) = true := by
      simp only [Bool.and_eq_true, decide_eq_true_eq]; omega
    rw [this] at hok; cases hok
  · exact new_C me t v clock draw a cap es h hlen hwf hdr (by omega) hC
end Go.Proofs.Ytcleaamjfjnkkaa
