/- works: two links, of which one waits. -/
import Derived.Test.YtkojjnkohnokoaaBoth
import Derived.Test.YtkojjnkohnokoaaLater
namespace Go.Proofs.Ytkojjnkohnokoaa
open Go.RowKit Go.Joins

theorem wk_put1 {a : BA} (h : a.size = 100) : putS new0 0 a = ⟨upd (fun _ => []) 0 [a], fun _ => 0⟩ ∧ putE new0 0 a = 0 := by
  simp [putS, putE, new0, h]
theorem wk_put2 {a b : BA} (h : b.size = 50) : putS ⟨upd (fun _ => []) 0 [a], fun _ => 0⟩ 1 b = ⟨upd (upd (fun _ => []) 0 [a]) 1 [b], fun _ => 0⟩ ∧ putE ⟨upd (fun _ => []) 0 [a], fun _ => 0⟩ 1 b = 0 := by
  simp [putS, putE, upd, h]
theorem wk_round1 {a b : BA} (ha : a.size = 100) (hb : b.size = 50) : roundF ⟨upd (upd (fun _ => []) 0 [a]) 1 [b], fun _ => 0⟩ = [(1, b)] := by
  simp [roundF, roundTo, lround, drain, upd, ha, hb]
theorem wk_round2 {a b : BA} (ha : a.size = 100) (hb : b.size = 50) : roundF (roundS ⟨upd (upd (fun _ => []) 0 [a]) 1 [b], fun _ => 0⟩) = [(0, a)] := by
  simp [roundF, roundS, roundTo, lround, drain, upd, ha, hb]
theorem wk_len {a b : BA} (ha : a.size = 100) (hb : b.size = 50) : lenS (roundS (roundS ⟨upd (upd (fun _ => []) 0 [a]) 1 [b], fun _ => 0⟩)) = 0 := by
  simp [lenS, lenTo, roundS, roundTo, lround, drain, upd, ha, hb]
theorem wk_good {a b : BA} (ha : a.size = 100) (hb : b.size = 50) : Good ⟨upd (upd (fun _ => []) 0 [a]) 1 [b], fun _ => 0⟩ := by
  have h := good_put (good_put good_new 0 a) 1 b
  rw [(wk_put1 ha).1, (wk_put2 hb).1] at h
  exact h
/-- one frame that was handed back. -/
theorem own_one {w : World} {base : Nat} {v : Value} {k : Nat} {b : BA} (h : OwnL encF 3 46 w base v [(k, b)]) : ∃ g cap, v = .slice (some ⟨g, 0, none⟩) 1 cap ∧ w.cell? ⟨g, 0, none⟩ = some (.int .i64 0) ∧ w.cell? ⟨g, 1, none⟩ = some (.int .i64 (k : Int)) ∧ w.cell? ⟨g, 2, none⟩ = some (.string b) := by
  obtain ⟨g, cap, rfl, -, -⟩ := h.form (by simp)
  refine ⟨g, cap, rfl, ?_⟩
  obtain ⟨a', c', e, hs, -⟩ := h.sli EF
  simp at e
  obtain ⟨rfl, rfl⟩ := e
  obtain ⟨b', o', e, hc⟩ := hs.lst 0 (by simp)
  simp at e
  obtain ⟨rfl, rfl⟩ := e
  have := fr_cells hc
  simpa using this
set_option maxHeartbeats 4000000 in
set_option maxRecDepth 100000 in
theorem works_any (w : World) : Calls Try.prog 18 #[] w (RetB true w) := by
  obtain ⟨A, hA⟩ : ∃ A, A = textB 100 1 := ⟨_, rfl⟩
  obtain ⟨B, hB⟩ : ∃ B, B = textB 50 2 := ⟨_, rfl⟩
  have sA : A.size = 100 := by rw [hA, textB_size]; rfl
  have sB : B.size = 50 := by rw [hB, textB_size]; rfl
  have HA := Lib.hid hA
  have HB := Lib.hid hB
  have SA := Lib.hid sA
  have SB := Lib.hid sB
  clear hA hB sA sB
  have T1 := trivial
  go_enter Try.func18, Try.ntmps18
  go_upto_region 6 with (first
    | (have z := T1; go_at_call 7; refine (o_new w).mono ?_; rintro e w1 ⟨p, rfl, h1, -⟩; have N := Lib.hid h1; clear h1 T1 z; have T2 := trivial)
    | (have z := T2; go_at_call 12; refine (text_any 100 1 _ (by omega) (by omega)).mono ?_; rw [← HA.out]; rintro e w2 ⟨rfl, hb⟩; have N' := Lib.hid (N.out.below hb); clear N hb z T2; have N := N'; clear N'; have T3 := trivial)
    | (have z := T3; go_at_call 11; refine (o_put N.out).mono ?_; rw [(wk_put1 SA.out).1, (wk_put1 SA.out).2]; rintro e w2 ⟨rfl, h1, -⟩; clear N z T3; have N := Lib.hid h1; clear h1; have T4 := trivial)
    | (have z := T4; go_at_call 12; refine (text_any 50 2 _ (by omega) (by omega)).mono ?_; rw [← HB.out]; rintro e w2 ⟨rfl, hb⟩; have N' := Lib.hid (N.out.below hb); clear N hb z T4; have N := N'; clear N'; have T5 := trivial)
    | (have z := T5; go_at_call 11; refine (o_put N.out).mono ?_; rw [(wk_put2 SB.out).1, (wk_put2 SB.out).2]; rintro e w2 ⟨rfl, h1, -⟩; clear N z T5; have N := Lib.hid h1; clear h1; have T6 := trivial)
    | (have z := T6; go_at_call 9; refine (o_round N.out (wk_good SA.out SB.out)).mono ?_; rw [wk_round1 SA.out SB.out]; rintro e w3 ⟨v, rfl, ho, h1, -⟩; clear N z T6; have N := Lib.hid h1; have O1 := Lib.hid ho; clear h1 ho; have T7 := trivial)
    | (have z := T7; go_at_call 9; refine (o_round N.out (good_round (wk_good SA.out SB.out))).mono ?_; rw [wk_round2 SA.out SB.out]; rintro e w4 ⟨v2, rfl, ho, h1, hm⟩; have O1' := Lib.hid (O1.out.mod hm (fun g hg c => c.1 (.inr hg))); clear O1; have O1 := O1'; clear O1'; clear N z T7 hm; have N := Lib.hid h1; have O2 := Lib.hid ho; clear h1 ho))
  obtain ⟨g1, c1, rfl, a0, a1, a2⟩ := own_one O1.out
  obtain ⟨g2, c2, rfl, b0, b1, b2⟩ := own_one O2.out
  have hb := Lib.hid N.out.bel
  have l0 := fun y : Later w4 => y.cell a0
  have l1 := fun y : Later w4 => y.cell a1
  have l2 := fun y : Later w4 => y.cell a2
  have m0 := fun y : Later w4 => y.cell b0
  have m1 := fun y : Later w4 => y.cell b1
  have m2 := fun y : Later w4 => y.cell b2
  have hA := Lib.hid (fun y : Later w4 => HA.out ▸ text_any 100 1 y.w (by omega) (by omega))
  have hB := Lib.hid (fun y : Later w4 => HB.out ▸ text_any 50 2 y.w (by omega) (by omega))
  have hL : Hid (∀ y : Later w4, Calls Try.prog 14 #[.pointer (some ⟨p, 0, none⟩)] y.w (RetI 0 y.w)) := Lib.hid (fun y => by
    have := o_len (N.out.below y.h) (good_round (good_round (wk_good SA.out SB.out)))
    rwa [wk_len SA.out SB.out] at this)
  clear N O1 O2
  refine wp_region_later_lit (by kernel_rfl) (by kernel_rfl) ?_
  repeat (any_goals (first | go_big_quiet_step (first | (go_at_call 12; with_reducible exact Calls.later (hB.out _)) | (go_at_call 12; with_reducible exact Calls.later (hA.out _)) | (go_at_call 14; with_reducible exact Calls.laterI (hL.out _))) | quiet_step (first | (go_at_call 12; with_reducible exact Calls.later (hB.out _)) | (go_at_call 12; with_reducible exact Calls.later (hA.out _)) | (go_at_call 14; with_reducible exact Calls.laterI (hL.out _)))))
  refine wpQuiet_nil ?_
  intro _ hw'
  obtain ⟨y, hw''⟩ := hw'
  subst hw''
  have hy := Lib.hid y.h
  clear l0 l1 l2 m0 m1 m2 hA hB hL
  generalize y.w = Y at *
  go_wp2
  go_ret
  exact retB rfl (grew_trans hb.out hy.out)
end Go.Proofs.Ytkojjnkohnokoaa
