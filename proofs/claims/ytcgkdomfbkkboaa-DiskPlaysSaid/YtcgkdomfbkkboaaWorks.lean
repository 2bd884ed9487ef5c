/- A disk that is used: the walk. -/
import Derived.Test.YtcgkdomfbkkboaaWorksP
namespace Go.Proofs.Ytcgkdomfbkkboaa
open Go.RowKit Go.Joins Go.ChangeMaps

def wZ : BA := dataB 0
variable {w0 w : World} {F : Nat → Prop} {p bm : Nat}
theorem d_dA (w : World) : Calls Try.prog 12 #[.int .u8 97] w (RetV (.string wA) w) := data_any 97 w (by omega) (by omega)
theorem d_dB (w : World) : Calls Try.prog 12 #[.int .u8 98] w (RetV (.string wB) w) := data_any 98 w (by omega) (by omega)
theorem d_dZ (w : World) : Calls Try.prog 12 #[.int .u8 0] w (RetV (.string wZ) w) := data_any 0 w (by omega) (by omega)
theorem d_used1 (h : DE w0 w F p bm wk1) : Calls Try.prog 23 #[.pointer (some ⟨p, 0, none⟩)] w (SameI 1 w) := by have := d_used h; rwa [we1u] at this
theorem d_used6 (h : DE w0 w F p bm wk6) : Calls Try.prog 23 #[.pointer (some ⟨p, 0, none⟩)] w (SameI 1 w) := by have := d_used h; rwa [we6u] at this
theorem d_on9 (h : DE w0 w F p bm wk9) : Calls Try.prog 21 #[.pointer (some ⟨p, 0, none⟩)] w (SameB false w) := by have := d_on h; rwa [we9o] at this
theorem d_arm6 (h : DE w0 w F p bm wk6) : Calls Try.prog 22 #[.pointer (some ⟨p, 0, none⟩), .int .i64 2] w (Tup0 (Stp w0 w F p bm wk7)) := d_arm h (by omega)
theorem we6 : wakeS wk5 [true, false] = wk6 := rfl
theorem we10 : wakeS wk9 [] = wk10 := rfl
theorem we1s' : readR wk1 0 = (wZ, 0) := we1s
theorem we6s' : readR wk6 2 = (wZ, 0) := we6s
theorem we10r' : readR wk10 0 = (wZ, 0) := we10r
theorem wf21 : WfI [2, 1] := by intro x hx; simp at hx; rcases hx with rfl | rfl <;> exact wf64 (by omega) (by omega)
theorem wf3 : WfI [3] := by intro x hx; simp at hx; subst hx; exact wf64 (by omega) (by omega)
theorem lst_nil {α : Type} [Inhabited α] (enc : α → List Value) (sz : Nat) (w : World) : Lst enc sz w none [] := fun i hi => by simp at hi
set_option maxHeartbeats 8000000 in
set_option maxRecDepth 100000 in
theorem works_any (W : World) : Calls Try.prog 16 #[] W (RetB true W) := by
  have T1 := trivial
  go_enter Try.func16, Try.ntmps16
  go_wp2_with (first
    | (have z := T1; go_at_call 9; refine (d_new 4 2 (by omega) (by omega) (by omega) (by omega)).mono ?_; rintro e w1 ⟨rfl, hN⟩; have N := Lib.hid hN; clear hN; clear T1 z; have T2 := trivial)
    | (have z := T2; go_at_call 12; refine (d_dA _).mono ?_; rintro e w1 ⟨rfl, hb⟩; have N' := Lib.hid (N.out.below hb); clear N hb; have N := N'; clear N'; clear T2 z; have T3 := trivial)
    | (have z := T3; go_at_call 11; refine (d_write N.out wl.1 we1).mono ?_; rintro e w1 ⟨rfl, hs⟩; have N' := Lib.hid hs.1; clear N hs; have N := N'; clear N'; clear T3 z; have T4 := trivial)
    | (have z := T4; go_at_call 23; refine (d_used1 N.out).mono ?_; rintro e w1 ⟨rfl, rfl⟩; clear T4 z; have T5 := trivial)
    | (have z := T5; go_at_call 12; refine (d_dA _).mono ?_; rintro e w1 ⟨rfl, hb⟩; have N' := Lib.hid (N.out.below hb); clear N hb; have N := N'; clear N'; clear T5 z; have T6 := trivial)
    | (have z := T6; go_at_call 11; refine (d_write N.out wl.2.1 we1a).mono ?_; rintro e w1 ⟨rfl, hs⟩; have N' := Lib.hid hs.1; clear N hs; have N := N'; clear N'; clear T6 z; have T7 := trivial)
    | (have z := T7; go_at_call 11; refine (d_write N.out wl.2.1 we1b).mono ?_; rintro e w1 ⟨rfl, hs⟩; have N' := Lib.hid hs.1; clear N hs; have N := N'; clear N'; clear T7 z; have T8 := trivial)
    | (have z := T8; go_at_call 18; refine (d_read N.out we1r).mono ?_; rintro e w1 ⟨rfl, hb⟩; have N' := Lib.hid (N.out.below hb); clear N hb; have N := N'; clear N'; clear T8 z; have T9 := trivial)
    | (have z := T9; go_at_call 18; refine (d_read N.out we1s').mono ?_; rintro e w1 ⟨rfl, hb⟩; have N' := Lib.hid (N.out.below hb); clear N hb; have N := N'; clear N'; clear T9 z; have T10 := trivial)
    | (have z := T10; go_at_call 12; refine (d_dA _).mono ?_; rintro e w1 ⟨rfl, hb⟩; have N' := Lib.hid (N.out.below hb); clear N hb; have N := N'; clear N'; clear T10 z; have T11 := trivial)
    | (have z := T11; go_at_call 12; refine (d_dZ _).mono ?_; rintro e w1 ⟨rfl, hb⟩; have N' := Lib.hid (N.out.below hb); clear N hb; have N := N'; clear N'; clear T11 z; have T12 := trivial)
    | (have z := T12; go_at_call 17; refine (d_flush N.out we2).mono ?_; rintro e w1 ⟨rfl, hs⟩; have N' := Lib.hid hs.1; clear N hs; have N := N'; clear N'; clear T12 z; have T13 := trivial)
    | (have z := T13; go_at_call 12; refine (d_dB _).mono ?_; rintro e w1 ⟨rfl, hb⟩; have N' := Lib.hid (N.out.below hb); clear N hb; have N := N'; clear N'; clear T13 z; have T14 := trivial)
    | (have z := T14; go_at_call 11; refine (d_write N.out wl.2.2.1 we3).mono ?_; rintro e w1 ⟨rfl, hs⟩; have N' := Lib.hid hs.1; clear N hs; have N := N'; clear N'; clear T14 z; have T15 := trivial)
    | (have z := T15; go_at_call 12; refine (d_dB _).mono ?_; rintro e w1 ⟨rfl, hb⟩; have N' := Lib.hid (N.out.below hb); clear N hb; have N := N'; clear N'; clear T15 z; have T16 := trivial)
    | (have z := T16; go_at_call 11; refine (d_write N.out wl.2.2.2.1 we4).mono ?_; rintro e w1 ⟨rfl, hs⟩; have N' := Lib.hid hs.1; clear N hs; have N := N'; clear N'; clear T16 z; have T17 := trivial)
    | (have z := T17; go_at_call 12; refine (d_dB _).mono ?_; rintro e w1 ⟨rfl, hb⟩; have N' := Lib.hid (N.out.below hb); clear N hb; have N := N'; clear N'; clear T17 z; have T18 := trivial)
    | (have z := T18; go_at_call 11; refine (d_write N.out wl.2.2.2.2.1 we4a).mono ?_; rintro e w1 ⟨rfl, hs⟩; have N' := Lib.hid hs.1; clear N hs; have N := N'; clear N'; clear T18 z; have T19 := trivial)
    | (have z := T19; go_at_call 14; refine (d_fits (n := 2) (N.out.below (bel1 _ (.cells #[.int .i64 2, .int .i64 1] 3))) (sli_lit EI1 _ [2, 1] 2 _ 3 rfl rfl (by unfold maxLen; omega)).lst wf21 rfl (by omega) we4f).mono ?_; rintro e w1 ⟨rfl, hb⟩; have N' := Lib.hid ((N.out.below (bel1 _ (.cells #[.int .i64 2, .int .i64 1] 3))).below hb); clear N hb; have N := N'; clear N'; clear T19 z; have T20 := trivial)
    | (have z := T20; go_at_call 14; refine (d_fits (n := 1) (N.out.below (bel1 _ (.cells #[.int .i64 3] 3))) (sli_lit EI1 _ [3] 1 _ 3 rfl rfl (by unfold maxLen; omega)).lst wf3 rfl (by omega) we4g).mono ?_; rintro e w1 ⟨rfl, hb⟩; have N' := Lib.hid ((N.out.below (bel1 _ (.cells #[.int .i64 3] 3))).below hb); clear N hb; have N := N'; clear N'; clear T20 z; have T21 := trivial)
    | (have z := T21; go_at_call 19; refine (d_off (s := wk4) N.out).mono ?_; rintro e w1 ⟨rfl, hs⟩; have N' := Lib.hid hs.1; clear N hs; have N := N'; clear N'; clear T21 z; have T22 := trivial)
    | (have z := T22; go_at_call 18; refine (d_read N.out we5r).mono ?_; rintro e w1 ⟨rfl, hb⟩; have N' := Lib.hid (N.out.below hb); clear N hb; have N := N'; clear N'; clear T22 z; have T23 := trivial)
    | (have z := T23; go_at_call 20; refine (d_wake (N.out.below (bel1 _ (.cells #[.bool true, .bool false] 4))) wl.2.2.2.2.2.1 (sli_lit EK _ [true, false] 2 _ 4 rfl rfl (by unfold maxLen; omega)).lst rfl we6).mono ?_; rintro e w1 ⟨rfl, hs⟩; have N' := Lib.hid (hs.1); clear N hs; have N := N'; clear N'; clear T23 z; have T24 := trivial)
    | (have z := T24; go_at_call 18; refine (d_read N.out we6r).mono ?_; rintro e w1 ⟨rfl, hb⟩; have N' := Lib.hid (N.out.below hb); clear N hb; have N := N'; clear N'; clear T24 z; have T25 := trivial)
    | (have z := T25; go_at_call 18; refine (d_read N.out we6s').mono ?_; rintro e w1 ⟨rfl, hb⟩; have N' := Lib.hid (N.out.below hb); clear N hb; have N := N'; clear N'; clear T25 z; have T26 := trivial)
    | (have z := T26; go_at_call 12; refine (d_dB _).mono ?_; rintro e w1 ⟨rfl, hb⟩; have N' := Lib.hid (N.out.below hb); clear N hb; have N := N'; clear N'; clear T26 z; have T27 := trivial)
    | (have z := T27; go_at_call 12; refine (d_dZ _).mono ?_; rintro e w1 ⟨rfl, hb⟩; have N' := Lib.hid (N.out.below hb); clear N hb; have N := N'; clear N'; clear T27 z; have T28 := trivial)
    | (have z := T28; go_at_call 23; refine (d_used6 N.out).mono ?_; rintro e w1 ⟨rfl, rfl⟩; clear T28 z; have T29 := trivial)
    | (have z := T29; go_at_call 22; refine (d_arm6 N.out).mono ?_; rintro e w1 ⟨rfl, hs⟩; have N' := Lib.hid hs.1; clear N hs; have N := N'; clear N'; clear T29 z; have T30 := trivial)
    | (have z := T30; go_at_call 12; refine (d_dA _).mono ?_; rintro e w1 ⟨rfl, hb⟩; have N' := Lib.hid (N.out.below hb); clear N hb; have N := N'; clear N'; clear T30 z; have T31 := trivial)
    | (have z := T31; go_at_call 11; refine (d_write N.out wl.2.2.2.2.2.2.1 we8).mono ?_; rintro e w1 ⟨rfl, hs⟩; have N' := Lib.hid hs.1; clear N hs; have N := N'; clear N'; clear T31 z; have T32 := trivial)
    | (have z := T32; go_at_call 17; refine (d_flush N.out we9).mono ?_; rintro e w1 ⟨rfl, hs⟩; have N' := Lib.hid hs.1; clear N hs; have N := N'; clear N'; clear T32 z; have T33 := trivial)
    | (have z := T33; go_at_call 21; refine (d_on9 N.out).mono ?_; rintro e w1 ⟨rfl, rfl⟩; clear T33 z; have T34 := trivial)
    | (have z := T34; go_at_call 20; refine (d_wake (ka := none) (kc := 0) (n := 0) N.out wl.2.2.2.2.2.2.2 (lst_nil _ _ _) rfl we10).mono ?_; rintro e w1 ⟨rfl, hs⟩; have N' := Lib.hid hs.1; clear N hs; have N := N'; clear N'; clear T34 z; have T35 := trivial)
    | (have z := T35; go_at_call 18; refine (d_read N.out we10r').mono ?_; rintro e w1 ⟨rfl, hb⟩; have N' := Lib.hid (N.out.below hb); clear N hb; have N := N'; clear N'; clear T35 z; have T36 := trivial)
    | (have z := T36; go_at_call 12; refine (d_dZ _).mono ?_; rintro e w1 ⟨rfl, hb⟩; have N' := Lib.hid (N.out.below hb); clear N hb; have N := N'; clear N'; clear T36 z; have T37 := trivial))
  go_ret
  exact retB rfl N.out.bel
end Go.Proofs.Ytcgkdomfbkkboaa
