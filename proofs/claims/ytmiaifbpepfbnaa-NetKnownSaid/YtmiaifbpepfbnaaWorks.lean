/- Two frames, one of which is doubled. -/
import Derived.Test.YtmiaifbpepfbnaaRJoin
namespace Go.Proofs.Ytmiaifbpepfbnaa
open Go.RowKit Go.Joins Go.ChangeMaps

/-! ### Two frames compared -/
theorem und31 : Try.prog.underlying 31 = some (.struct (Try.prog.fieldsOf 31)) := by kernel_rfl
theorem held31 : Try.prog.stoodInHeld 31 = false := by kernel_rfl
def eqF (x y : Fr) : Bool := (x.1 == y.1) && (x.2.1 == y.2.1) && (x.2.2.toList == y.2.2.toList)
theorem ba_beq (x y : ByteArray) : (x == y) = true ↔ x = y := by
  cases x; cases y
  rw [ByteArray.mk.injEq]
  exact beq_iff_eq (α := Array UInt8)
theorem eqF_iff (x y : Fr) : eqF x y = true ↔ x = y := by
  obtain ⟨x1, x2, x3⟩ := x
  obtain ⟨y1, y2, y3⟩ := y
  unfold eqF
  rw [← beq_toListBytes, Bool.and_eq_true, Bool.and_eq_true, ba_beq]
  simp [and_assoc]
theorem eqF_dec (x y : Fr) : eqF x y = decide (x = y) := by rw [Bool.eq_iff_iff, eqF_iff, decide_eq_true_eq]
theorem eq31 (d : Nat) (w : World) (x1 x2 y1 y2 : Int) (x3 y3 : ByteArray) : (Op.equalIn (d + 1 + 1) 31 (.agg #[.int .i64 x1, .int .i64 x2, .string x3]) (.agg #[.int .i64 y1, .int .i64 y2, .string y3])).run Try.prog w = .ok (eqF (x1, x2, x3) (y1, y2, y3)) w := by
  rw [run_equalIn_struct w (d + 1) 31 _ _ und31 held31]
  unfold Program.fieldsOf
  rw [Try.underlying31]
  simp [Op.eqFields, part, go_sem, eqF]
  by_cases h1 : x1 = y1 <;> by_cases h2 : x2 = y2 <;> by_cases h3 : x3.toList = y3.toList <;> simp [h1, h2, h3]
theorem eql31 (w : World) (x1 x2 y1 y2 : Int) (x3 y3 : ByteArray) : (binOp .eql 31 (.agg #[.int .i64 x1, .int .i64 x2, .string x3]) (.agg #[.int .i64 y1, .int .i64 y2, .string y3])).run Try.prog w = .ok (.bool (eqF (x1, x2, x3) (y1, y2, y3))) w := by
  rw [run_eql_struct, eq31 9998]; rfl
theorem neq31 (w : World) (x1 x2 y1 y2 : Int) (x3 y3 : ByteArray) : (binOp .neq 31 (.agg #[.int .i64 x1, .int .i64 x2, .string x3]) (.agg #[.int .i64 y1, .int .i64 y2, .string y3])).run Try.prog w = .ok (.bool (!eqF (x1, x2, x3) (y1, y2, y3))) w := by
  rw [run_neq_struct, eq31 9998]; rfl
set_option maxRecDepth 100000 in
theorem frame_any (a b : Int) (s : ByteArray) (w : World) : Calls Try.prog 24 #[.int .i64 a, .int .i64 b, .string s] w (RetV (.agg #[.int .i64 a, .int .i64 b, .string s]) w) := by
  go_enter Try.func24, Try.ntmps24
  go_wp2
  refine bodyPost_ret (results_cell_row (fn := Try.f24) rfl _ _ w.heap.size 31 _ (0, 0) _ rfl (heap_alloc_new w _) Try.underlying31 rfl (by kernel_rfl)) rfl ?_
  exact retV rfl (bel1 _ _)
/-! ### A net that is used -/
theorem PUpd.next {n p bm : Nat} {v : Value} {s s' : St} {w0 w w' : World} (h0 : Below n w0 w) (hP : PN w n p bm v s) (h : PUpd n p bm v s' w w') : Below n w0 w' ∧ ∃ v', PN w' n p bm v' s' := by
  obtain ⟨v', h1, h2, -⟩ := h
  refine ⟨h0.trans (h2.below ?_ (fun k hk => (hP.lt k hk).1)), v', h1⟩
  have := hP.lt p (.inl rfl)
  omega
def fa : Fr := (0, 1, ⟨#[97]⟩)
def fb : Fr := (1, 2, ⟨#[98]⟩)
def wk1 : St := ⟨3, [fa, fb], [], 2, 2, 0⟩
def wk2 : St := ⟨3, [fa, fb, fa], [], 2, 2, 0⟩
def wk3 : St := ⟨3, [fa, fa], [], 2, 2, 0⟩
def wk4 : St := ⟨3, [fa], [], 2, 2, 0⟩
theorem wkS : sendS (newS 3) [fa, fb] = wk1 := rfl
theorem wkT : twiceS wk1 0 = (wk2, true) := rfl
theorem wkA : takeS wk2 1 = (wk3, fb, true) := rfl
theorem wkB : takeS wk3 1 = (wk4, fa, true) := rfl
theorem good1 : Good wk1 := by rw [← wkS]; exact (good_send _ (good_new (by omega) (by omega))).1
theorem good2 : Good wk2 := by have := good_twice good1 0; rwa [wkT] at this
theorem good3 : Good wk3 := by have := good_take good2 1; rwa [wkA] at this
theorem wk_takeA {n p bm : Nat} {v : Value} {w : World} (h : PN w n p bm v wk2) : Calls Try.prog 17 #[.pointer (some ⟨p, 0, none⟩), .int .i64 1] w (RT (.tuple #[.agg #[.int .i64 1, .int .i64 2, .string ⟨#[98]⟩], .bool true]) (PUpd n p bm v wk3 w)) := take_any n p bm v wk2 1 w h good2
theorem wk_takeB {n p bm : Nat} {v : Value} {w : World} (h : PN w n p bm v wk3) : Calls Try.prog 17 #[.pointer (some ⟨p, 0, none⟩), .int .i64 1] w (RT (.tuple #[.agg #[.int .i64 0, .int .i64 1, .string ⟨#[97]⟩], .bool true]) (PUpd n p bm v wk4 w)) := take_any n p bm v wk3 1 w h good3
theorem wk_twice {n p bm : Nat} {v : Value} {w : World} (h : PN w n p bm v wk1) (hb : n ≤ w.heap.size) : Calls Try.prog 11 #[.pointer (some ⟨p, 0, none⟩), .int .i64 0] w (RB true (PUpd n p bm v wk2 w)) := twice_any n p bm v wk1 0 w h hb
set_option maxHeartbeats 4000000 in
set_option maxRecDepth 100000 in
theorem works_any (w : World) : Calls Try.prog 14 #[] w (RetB true w) := by
  have T1 := trivial
  go_enter Try.func14, Try.ntmps14
  go_wp2_with (first
    | (have z := T1; go_at_call 8; refine (new_any 3 _ (by omega) (by omega)).mono ?_; rintro e w1 ⟨rfl, hP1, hB1⟩; have P := Lib.hid hP1; have B := Lib.hid hB1; clear T1 z hP1 hB1; have T2 := trivial)
    | (have z := T2; go_at_call 24; refine (frame_any 0 1 _ _).mono ?_; rintro e w1 ⟨rfl, hb⟩; have P' := Lib.hid (P.out.below hb); have B' := Lib.hid (grew_trans B.out hb); clear P B hb; have P := P'; have B := B'; clear T2 z P' B'; have T3 := trivial)
    | (have z := T3; go_at_call 24; refine (frame_any 1 2 _ _).mono ?_; rintro e w2 ⟨rfl, hb⟩; have P' := Lib.hid ((P.out.below hb).below (bel1 _ (.cells #[.int .i64 0, .int .i64 1, .string ⟨#[97]⟩, .int .i64 1, .int .i64 2, .string ⟨#[98]⟩] 31))); have B' := Lib.hid (grew_trans (grew_trans B.out hb) (bel1 _ (.cells #[.int .i64 0, .int .i64 1, .string ⟨#[97]⟩, .int .i64 1, .int .i64 2, .string ⟨#[98]⟩] 31))); have HF := Lib.hid (fun k c => ((P.out.below hb).lt k c).2); have L := Lib.hid (sli_lit EF w2 [fa, fb] 2 _ 31 rfl rfl (by unfold maxLen; omega)); clear P B hb; have P := P'; have B := B'; clear T3 z P' B'; have T4 := trivial)
    | (have z := T4; go_at_call 9; refine (send_any _ _ _ 2 _ _ _ [fa, fb] _ P.out (good_new (by omega) (by omega)) L.out B.out.size (by simp [newS]) (fun b off e c => by simp at e; have := HF.out b c; omega)).mono ?_; rintro e w3 ⟨rfl, hU⟩; obtain ⟨B', v', P'⟩ := PUpd.next B.out P.out hU; rw [wkS] at P'; clear P B HF L z T4; have P := Lib.hid P'; have B := Lib.hid B'; clear P' B' hU; have T5 := trivial)
    | (have z := T5; go_at_call 11; refine (wk_twice P.out B.out.size).mono ?_; rintro e w4 ⟨rfl, hU⟩; obtain ⟨B', v', P'⟩ := PUpd.next B.out P.out hU; clear P B z T5; have P := Lib.hid P'; have B := Lib.hid B'; clear P' B' hU; have T6 := trivial)
    | (have z := T6; go_at_call 17; refine (wk_takeA P.out).mono ?_; rintro e w5 ⟨rfl, hU⟩; obtain ⟨B', v', P'⟩ := PUpd.next B.out P.out hU; clear P B z T6; have P0 := Lib.hid P'; have P := Lib.hid (P'.below (bel1 _ (.cells #[.int .i64 1, .int .i64 2, .string ⟨#[98]⟩] 31))); have C1 := Lib.hid (heap_alloc_new w5 (.cells #[.int .i64 1, .int .i64 2, .string ⟨#[98]⟩] 31)); have B := Lib.hid (grew_trans B' (bel1 _ (.cells #[.int .i64 1, .int .i64 2, .string ⟨#[98]⟩] 31))); clear P' B' hU; have T7 := trivial)
    | (have z := T7; go_at_call 17; refine (wk_takeB P.out).mono ?_; rintro e w6 ⟨rfl, hU⟩; obtain ⟨B', v', P'⟩ := PUpd.next B.out P.out hU; obtain ⟨-, -, hM, -⟩ := hU; have D1 := Lib.hid (blk_below (hM.heap C1.out (fun c => absurd (P0.out.lt _ c).2 (Nat.lt_irrefl _))) (bel1 _ (.cells #[.int .i64 0, .int .i64 1, .string ⟨#[97]⟩] 31))); clear P B z T7 hM C1 P0; have P := Lib.hid (P'.below (bel1 _ (.cells #[.int .i64 0, .int .i64 1, .string ⟨#[97]⟩] 31))); have C2 := Lib.hid (heap_alloc_new w6 (.cells #[.int .i64 0, .int .i64 1, .string ⟨#[97]⟩] 31)); have B := Lib.hid (grew_trans B' (bel1 _ (.cells #[.int .i64 0, .int .i64 1, .string ⟨#[97]⟩] 31))); clear P' B'; have T8 := trivial))
  generalize w6.alloc (.cells #[.int .i64 0, .int .i64 1, .string ⟨#[97]⟩] 31) = W at *
  generalize w5.heap.size = n5 at *
  generalize w6.heap.size = n6 at *
  have l0 := fun y : Later W => y.cell (cell_of D1.out 0 (v := .int .i64 1) rfl).1
  have l1 := fun y : Later W => y.cell (cell_of D1.out 1 (v := .int .i64 2) rfl).1
  have l2 := fun y : Later W => y.cell (cell_of D1.out 2 (v := .string ⟨#[98]⟩) rfl).1
  have l3 := fun y : Later W => y.cell (cell_of C2.out 0 (v := .int .i64 0) rfl).1
  have l4 := fun y : Later W => y.cell (cell_of C2.out 1 (v := .int .i64 1) rfl).1
  have l5 := fun y : Later W => y.cell (cell_of C2.out 2 (v := .string ⟨#[97]⟩) rfl).1
  have h1 : ∀ V, (binOp .eql 31 (.agg #[.int .i64 1, .int .i64 2, .string ⟨#[98]⟩]) (.agg #[.int .i64 1, .int .i64 2, .string ⟨#[98]⟩])).run Try.prog V = .ok (.bool true) V := fun V => (eql31 V 1 2 1 2 ⟨#[98]⟩ ⟨#[98]⟩).trans (by rw [(eqF_iff _ _).2 rfl])
  have h2 : ∀ V, (binOp .eql 31 (.agg #[.int .i64 0, .int .i64 1, .string ⟨#[97]⟩]) (.agg #[.int .i64 0, .int .i64 1, .string ⟨#[97]⟩])).run Try.prog V = .ok (.bool true) V := fun V => (eql31 V 0 1 0 1 ⟨#[97]⟩ ⟨#[97]⟩).trans (by rw [(eqF_iff _ _).2 rfl])
  have hlen := Lib.hid (fun y : Later W => len_any _ _ _ _ wk4 y.w (P.out.below y.h))
  refine wp_region_later_lit (by kernel_rfl) (by kernel_rfl) ?_
  repeat (any_goals (first | go_big_quiet_step (first | (go_at_call 24; exact Calls.later (frame_any _ _ _ _)) | (go_at_call 13; exact laterSI (hlen.out _))) | quiet_step (first | (go_at_call 24; exact Calls.later (frame_any _ _ _ _)) | (go_at_call 13; exact laterSI (hlen.out _)))))
  refine wpQuiet_nil ?_
  intro _ hw'
  obtain ⟨y, hw''⟩ := hw'
  subst hw''
  have hy := Lib.hid y.h
  clear l0 l1 l2 l3 l4 l5 hlen h1 h2
  generalize y.w = Y at *
  go_wp2
  go_ret
  exact retB rfl (grew_trans B.out hy.out)
end Go.Proofs.Ytmiaifbpepfbnaa
