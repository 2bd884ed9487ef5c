/- The chapter's examples: the walk. -/
import Derived.Test.YtcgkdomfbkkboaaFusesP
namespace Go.Proofs.Ytcgkdomfbkkboaa
open Go.RowKit Go.Joins Go.ChangeMaps

def kd0 : St := newS 1 5
def kd1 : St := (writeR kd0 0 wA).2
def kd2 : St := roomS kd1 (-5)
def kd3 : St := (writeR kd2 0 wB).2
def kf1 : St := armS (newS 3 3) 1
def kf2 : St := armS kf1 0
def kf3 : St := (writeR kf2 0 wA).2
def kf4 : St := armS kf3 1
def kf5 : St := offS kf4
def kf6 : St := wakeS kf5 [true]
def kf7 : St := (flushR kf6).2
theorem ke1 : writeR kd0 0 wA = (0, kd1) := by kernel_rfl
theorem ke1w : wakeS kd1 [false] = kd1 := by kernel_rfl
theorem ke1r : readR kd1 0 = (wA, 0) := by kernel_rfl
theorem ke3 : writeR kd2 0 wB = (0, kd3) := by kernel_rfl
theorem ke3a : fitsS kd3 [0, 0] = true := by kernel_rfl
theorem ke3b : fitsS kd3 [1] = false := by kernel_rfl
theorem ke3c : fitsS kd3 [-1] = false := by kernel_rfl
theorem ke3d : fitsS kd3 [] = true := by kernel_rfl
theorem kf3e : writeR kf2 0 wA = (0, kf3) := by kernel_rfl
theorem kf4e : writeR kf4 9 wA = (2, kf4) := by kernel_rfl
theorem kf4r : readR kf4 (-1) = (ByteArray.empty, 2) := by kernel_rfl
theorem kf6e : wakeS kf5 [true] = kf6 := rfl
theorem kf7e : flushR kf6 = (0, kf7) := by kernel_rfl
theorem kf7r : readR kf7 0 = (wA, 0) := by kernel_rfl
theorem kf7u : (cntF kf7.now : Int) = 1 := by kernel_rfl
theorem kl : kd0.more.length ≤ 1000000 ∧ kd1.more.length ≤ 1000000 ∧ kd2.more.length ≤ 1000000 ∧ kf2.more.length ≤ 1000000 ∧ kf4.more.length ≤ 1000000 ∧ kf5.more.length ≤ 1000000 := by
  have e1 : kd0.more.length = 0 := by kernel_rfl
  have e2 : kd1.more.length = 1 := by kernel_rfl
  have e3 : kd2.more.length = 1 := by kernel_rfl
  have e4 : kf2.more.length = 0 := by kernel_rfl
  have e5 : kf4.more.length = 1 := by kernel_rfl
  have e6 : kf5.more.length = 1 := by kernel_rfl
  omega
theorem kw0 : WfI [0, 0] := by intro x hx; simp at hx; subst hx; exact wf64 (by omega) (by omega)
theorem kw1 : WfI [1] := by intro x hx; simp at hx; subst hx; exact wf64 (by omega) (by omega)
theorem kw2 : WfI [-1] := by intro x hx; simp at hx; subst hx; exact wf64 (by omega) (by omega)
variable {w0 w : World} {F : Nat → Prop} {p bm : Nat}
theorem d_roomK (h : DE w0 w F p bm kd1) : Calls Try.prog 25 #[.pointer (some ⟨p, 0, none⟩), .int .i64 (-5)] w (Tup0 (Stp w0 w F p bm kd2)) := d_room h (by omega)
theorem d_armK1 (h : DE w0 w F p bm (newS 3 3)) : Calls Try.prog 22 #[.pointer (some ⟨p, 0, none⟩), .int .i64 1] w (Tup0 (Stp w0 w F p bm kf1)) := d_arm h (by omega)
theorem d_armK2 (h : DE w0 w F p bm kf1) : Calls Try.prog 22 #[.pointer (some ⟨p, 0, none⟩), .int .i64 0] w (Tup0 (Stp w0 w F p bm kf2)) := d_arm h (by omega)
theorem d_armK4 (h : DE w0 w F p bm kf3) : Calls Try.prog 22 #[.pointer (some ⟨p, 0, none⟩), .int .i64 1] w (Tup0 (Stp w0 w F p bm kf4)) := d_arm h (by omega)
theorem d_usedK (h : DE w0 w F p bm kf7) : Calls Try.prog 23 #[.pointer (some ⟨p, 0, none⟩)] w (SameI 1 w) := by have := d_used h; rwa [kf7u] at this
set_option maxHeartbeats 16000000 in
set_option maxRecDepth 100000 in
theorem lawKnown (W : World) : Calls Try.prog 8 #[] W (RetB true W) := by
  have T1 := trivial
  go_enter Try.func8, Try.ntmps8
  go_wp2_with (first
    | (have z := T1; go_at_call 9; refine (d_new 1 5 (by omega) (by omega) (by omega) (by omega)).mono ?_; rintro e w8 ⟨rfl, hN⟩; have N := Lib.hid hN; clear hN; clear T1 z; have T2 := trivial)
    | (have z := T2; go_at_call 12; refine (d_dA _).mono ?_; rintro e w1 ⟨rfl, hb⟩; have N' := Lib.hid (N.out.below hb); clear N hb; have N := N'; clear N'; clear T2 z; have T3 := trivial)
    | (have z := T3; go_at_call 11; refine (d_write N.out kl.1 ke1).mono ?_; rintro e w1 ⟨rfl, hs⟩; have N' := Lib.hid hs.1; clear N hs; have N := N'; clear N'; clear T3 z; have T4 := trivial)
    | (have z := T4; go_at_call 20; refine (d_wake (n := 1) (N.out.below (bel1 _ (.cells #[.bool false] 4))) kl.2.1 (sli_lit EK _ [false] 1 _ 4 rfl rfl (by unfold maxLen; omega)).lst rfl ke1w).mono ?_; rintro e w1 ⟨rfl, hs⟩; have N' := Lib.hid hs.1; clear N hs; have N := N'; clear N'; clear T4 z; have T5 := trivial)
    | (have z := T5; go_at_call 18; refine (d_read N.out ke1r).mono ?_; rintro e w1 ⟨rfl, hb⟩; have N' := Lib.hid (N.out.below hb); clear N hb; have N := N'; clear N'; clear T5 z; have T6 := trivial)
    | (have z := T6; go_at_call 25; refine (d_roomK N.out).mono ?_; rintro e w1 ⟨rfl, hs⟩; have N' := Lib.hid hs.1; clear N hs; have N := N'; clear N'; clear T6 z; have T7 := trivial)
    | (have z := T7; go_at_call 12; refine (d_dB _).mono ?_; rintro e w1 ⟨rfl, hb⟩; have N' := Lib.hid (N.out.below hb); clear N hb; have N := N'; clear N'; clear T7 z; have T8 := trivial)
    | (have z := T8; go_at_call 11; refine (d_write N.out kl.2.2.1 ke3).mono ?_; rintro e w1 ⟨rfl, hs⟩; have N' := Lib.hid hs.1; clear N hs; have N := N'; clear N'; clear T8 z; have T9 := trivial)
    | (have z := T9; go_at_call 14; refine (d_fits (n := 2) (N.out.below (bel1 _ (.cells #[.int .i64 0, .int .i64 0] 3))) (sli_lit EI1 _ [0, 0] 2 _ 3 rfl rfl (by unfold maxLen; omega)).lst kw0 rfl (by omega) ke3a).mono ?_; rintro e w1 ⟨rfl, hb⟩; have N' := Lib.hid ((N.out.below (bel1 _ (.cells #[.int .i64 0, .int .i64 0] 3))).below hb); clear N hb; have N := N'; clear N'; clear T9 z; have T10 := trivial)
    | (have z := T10; go_at_call 14; refine (d_fits (n := 1) (N.out.below (bel1 _ (.cells #[.int .i64 1] 3))) (sli_lit EI1 _ [1] 1 _ 3 rfl rfl (by unfold maxLen; omega)).lst kw1 rfl (by omega) ke3b).mono ?_; rintro e w1 ⟨rfl, hb⟩; have N' := Lib.hid ((N.out.below (bel1 _ (.cells #[.int .i64 1] 3))).below hb); clear N hb; have N := N'; clear N'; clear T10 z; have T11 := trivial)
    | (have z := T11; go_at_call 14; refine (d_fits (n := 1) (N.out.below (bel1 _ (.cells #[.int .i64 (-1)] 3))) (sli_lit EI1 _ [-1] 1 _ 3 rfl rfl (by unfold maxLen; omega)).lst kw2 rfl (by omega) ke3c).mono ?_; rintro e w1 ⟨rfl, hb⟩; have N' := Lib.hid ((N.out.below (bel1 _ (.cells #[.int .i64 (-1)] 3))).below hb); clear N hb; have N := N'; clear N'; clear T11 z; have T12 := trivial)
    | (have z := T12; go_at_call 14; refine (d_fits (n := 0) (l := []) N.out (lst_nil _ _ _) (fun x hx => by simp at hx) rfl (by omega) ke3d).mono ?_; rintro e w1 ⟨rfl, hb⟩; have N' := Lib.hid (N.out.below hb); clear N hb; have N := N'; clear N'; clear T12 z; have T13 := trivial)
    | (have z := T13; go_at_call 9; have B' := Lib.hid N.out.bel; clear N; refine (d_new 3 3 (by omega) (by omega) (by omega) (by omega)).mono ?_; rintro e w2 ⟨rfl, hN⟩; have B := B'; clear B'; have N := Lib.hid hN; clear hN; clear T13 z; have T14 := trivial)
    | (have z := T14; go_at_call 22; refine (d_armK1 N.out).mono ?_; rintro e w1 ⟨rfl, hs⟩; have N' := Lib.hid hs.1; clear N hs; have N := N'; clear N'; clear T14 z; have T15 := trivial)
    | (have z := T15; go_at_call 22; refine (d_armK2 N.out).mono ?_; rintro e w1 ⟨rfl, hs⟩; have N' := Lib.hid hs.1; clear N hs; have N := N'; clear N'; clear T15 z; have T16 := trivial)
    | (have z := T16; go_at_call 12; refine (d_dA _).mono ?_; rintro e w1 ⟨rfl, hb⟩; have N' := Lib.hid (N.out.below hb); clear N hb; have N := N'; clear N'; clear T16 z; have T17 := trivial)
    | (have z := T17; go_at_call 11; refine (d_write N.out kl.2.2.2.1 kf3e).mono ?_; rintro e w1 ⟨rfl, hs⟩; have N' := Lib.hid hs.1; clear N hs; have N := N'; clear N'; clear T17 z; have T18 := trivial)
    | (have z := T18; go_at_call 22; refine (d_armK4 N.out).mono ?_; rintro e w1 ⟨rfl, hs⟩; have N' := Lib.hid hs.1; clear N hs; have N := N'; clear N'; clear T18 z; have T19 := trivial)
    | (have z := T19; go_at_call 12; refine (d_dA _).mono ?_; rintro e w1 ⟨rfl, hb⟩; have N' := Lib.hid (N.out.below hb); clear N hb; have N := N'; clear N'; clear T19 z; have T20 := trivial)
    | (have z := T20; go_at_call 11; refine (d_write N.out kl.2.2.2.2.1 kf4e).mono ?_; rintro e w1 ⟨rfl, hs⟩; have N' := Lib.hid hs.1; clear N hs; have N := N'; clear N'; clear T20 z; have T21 := trivial)
    | (have z := T21; go_at_call 18; refine (d_read N.out kf4r).mono ?_; rintro e w1 ⟨rfl, hb⟩; have N' := Lib.hid (N.out.below hb); clear N hb; have N := N'; clear N'; clear T21 z; have T22 := trivial)
    | (have z := T22; go_at_call 19; refine (d_off (s := kf4) N.out).mono ?_; rintro e w1 ⟨rfl, hs⟩; have N' := Lib.hid hs.1; clear N hs; have N := N'; clear N'; clear T22 z; have T23 := trivial)
    | (have z := T23; go_at_call 20; refine (d_wake (n := 1) (N.out.below (bel1 _ (.cells #[.bool true] 4))) kl.2.2.2.2.2 (sli_lit EK _ [true] 1 _ 4 rfl rfl (by unfold maxLen; omega)).lst rfl kf6e).mono ?_; rintro e w1 ⟨rfl, hs⟩; have N' := Lib.hid hs.1; clear N hs; have N := N'; clear N'; clear T23 z; have T24 := trivial)
    | (have z := T24; go_at_call 17; refine (d_flush N.out kf7e).mono ?_; rintro e w1 ⟨rfl, hs⟩; have N' := Lib.hid hs.1; clear N hs; have N := N'; clear N'; clear T24 z; have T25 := trivial)
    | (have z := T25; go_at_call 18; refine (d_read N.out kf7r).mono ?_; rintro e w1 ⟨rfl, hb⟩; have N' := Lib.hid (N.out.below hb); clear N hb; have N := N'; clear N'; clear T25 z; have T26 := trivial)
    | (have z := T26; go_at_call 18; refine (read_nil _ _).mono ?_; rintro e w1 ⟨rfl, hb⟩; have N' := Lib.hid (N.out.below hb); clear N hb; have N := N'; clear N'; clear T26 z; have T27 := trivial)
    | (have z := T27; go_at_call 16; refine (works_any _).mono ?_; rintro e w1 ⟨rfl, hb⟩; have N' := Lib.hid (N.out.below hb); clear N hb; have N := N'; clear N'; clear T27 z; have T28 := trivial)
    | (have z := T28; go_at_call 12; refine (d_dA _).mono ?_; rintro e w1 ⟨rfl, hb⟩; have N' := Lib.hid (N.out.below hb); clear N hb; have N := N'; clear N'; clear T28 z; have T29 := trivial)
    | (have z := T29; go_at_call 12; refine (d_dA _).mono ?_; rintro e w1 ⟨rfl, hb⟩; have N' := Lib.hid (N.out.below hb); clear N hb; have N := N'; clear N'; clear T29 z; have T30 := trivial)
    | (have z := T30; go_at_call 9; refine (new_out 0 1 _ (by omega)).mono ?_; rintro e w1 ⟨rfl, rfl⟩; clear T30 z; have T31 := trivial)
    | (have z := T31; go_at_call 9; refine (new_out 1025 1 _ (by omega)).mono ?_; rintro e w1 ⟨rfl, rfl⟩; clear T31 z; have T32 := trivial)
    | (have z := T32; go_at_call 9; refine (new_out 1 (-1) _ (by omega)).mono ?_; rintro e w1 ⟨rfl, rfl⟩; clear T32 z; have T33 := trivial)
    | (have z := T33; go_at_call 9; refine (d_new 1024 0 (by omega) (by omega) (by omega) (by omega)).mono ?_; rintro e w3 ⟨rfl, hN⟩; have N' := Lib.hid (N.out.below hN.bel); clear N hN; have N := N'; clear N'; clear T33 z; have T34 := trivial)
    | (have z := T34; go_at_call 12; refine (d_dA _).mono ?_; rintro e w1 ⟨rfl, hb⟩; have N' := Lib.hid (N.out.below hb); clear N hb; have N := N'; clear N'; clear T34 z; have T35 := trivial)
    | (have z := T35; go_at_call 11; refine (write_nil _ _ _).mono ?_; rintro e w1 ⟨rfl, rfl⟩; clear T35 z; have T36 := trivial)
    | (have z := T36; go_at_call 17; refine (flush_nil _).mono ?_; rintro e w1 ⟨rfl, rfl⟩; clear T36 z; have T37 := trivial)
    | (have z := T37; go_at_call 14; refine (fits_nil _).mono ?_; rintro e w1 ⟨rfl, hb⟩; have N' := Lib.hid (N.out.below hb); clear N hb; have N := N'; clear N'; clear T37 z; have T38 := trivial)
    | (have z := T38; go_at_call 23; refine (used_nil _).mono ?_; rintro e w1 ⟨rfl, rfl⟩; clear T38 z; have T39 := trivial)
    | (have z := T39; go_at_call 29; refine (len_nil _).mono ?_; rintro e w1 ⟨rfl, rfl⟩; clear T39 z; have T40 := trivial)
    | (have z := T40; go_at_call 21; refine (on_nil _).mono ?_; rintro e w1 ⟨rfl, rfl⟩; clear T40 z; have T41 := trivial)
    | (have z := T41; go_at_call 24; refine (copy_nil _).mono ?_; rintro e w1 ⟨rfl, hb⟩; have N' := Lib.hid (N.out.below hb); clear N hb; have N := N'; clear N'; clear T41 z; have T42 := trivial)
    | (have z := T42; go_at_call 23; refine (d_usedK N.out).mono ?_; rintro e w1 ⟨rfl, rfl⟩; clear T42 z; have T43 := trivial))
  go_ret
  exact retB rfl (B.out.trans (N.out.bel.mono B.out.size))
end Go.Proofs.Ytcgkdomfbkkboaa
