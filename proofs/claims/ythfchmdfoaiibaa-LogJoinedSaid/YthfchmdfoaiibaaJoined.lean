/- What was joined is there. -/
import Derived.Test.YthfchmdfoaiibaaJoinedP
namespace Go.Proofs.Ythfchmdfoaiibaa
open Go.RowKit Go.Joins

set_option maxRecDepth 100000 in
set_option maxHeartbeats 8000000 in
theorem lawJoined (a b : Option Addr) (cap capb : Nat) (es fs : List Ent) (prev : Int) (w : World) (h : InE w a cap es) (hf : InE w b capb fs) : Calls Try.prog 9 #[.slice a es.length cap, .int .i64 prev, .slice b fs.length capb] w (RetB true w) := by
  obtain ⟨ES, hES⟩ : ∃ ES, es.take 400 = ES := ⟨_, rfl⟩
  obtain ⟨FS, hFS⟩ : ∃ FS, fs.take 400 = FS := ⟨_, rfl⟩
  have hown := Lib.hid (own_in h ES hES)
  have hownf : Hid (∀ w1, Below w.heap.size w w1 → Calls Try.prog 11 #[.slice b fs.length capb] w1 (OwnPost FS w1)) := fun w1 hb => own_in (hf.below hb) FS hFS
  have hl : Hid (ES.length ≤ 400) := by rw [← hES]; simp [Hid]; omega
  have hlf : Hid (FS.length ≤ 400) := by rw [← hFS]; simp [Hid]; omega
  clear h hf hES hFS
  obtain ⟨J, hJ⟩ : ∃ J, joinL ES prev FS = J := ⟨_, rfl⟩
  have HJ := Lib.hid hJ
  have T1 := trivial
  by_cases hbad : prev < 0 ∨ (ES.length : Int) < prev
  · have hJE : J = ES := by rw [← hJ, joinL_bad hbad]
    subst hJE
    clear hJ
    by_cases h0 : prev < 0
    · clear hbad
      have h0b : decide (prev < 0) = true := by simpa using h0
      go_enter Try.func9, Try.ntmps9
      go_wp2_with (first
        | (have q := T1; go_at_call 11; refine hown.out.mono ?_; intro e w1 hp; obtain ⟨a1, c1, rfl, hs, -, b1⟩ := sl_form hp rfl; have S := Lib.hid hs; have B1 := Lib.hid b1; clear hp hs b1 T1 q; have T2 := trivial)
        | (have q := T2; go_at_call 11; refine (hownf.out _ B1.out).mono ?_; intro e w2 hp; obtain ⟨a2, c2, rfl, hs, -, b2⟩ := sl_form hp rfl; have SF2 := Lib.hid hs; have S2 := Lib.hid (S.out.below b2); have B2 := Lib.hid (grew_trans B1.out b2); clear hp hs b2 T2 q S B1; have T3 := trivial)
        | (have q := T3; go_at_call 17; refine (join_len _ _ _ _ _ _ J FS prev rfl rfl _ S2.out SF2.out (by have := hl.out; have := hlf.out; omega)).mono ?_; rw [HJ.out]; intro e w3 hp; obtain ⟨a3, c3, rfl, hs, -, b3⟩ := sl_form hp rfl; have J3 := Lib.hid hs; have S3 := Lib.hid (S2.out.below b3); have B3 := Lib.hid (grew_trans B2.out b3); clear hp hs b3 T3 q S2 B2; have T4 := trivial)
        | (have q := T4; go_at_call 28; refine (same_len J J _ _ _ _ _ _ rfl rfl _ J3.out S3.out true (by simp)).mono ?_; rintro e w4 ⟨rfl, b4⟩; have B4 := Lib.hid (grew_trans B3.out b4); clear b4 T4 q; have T5 := trivial)
        | (have q := T5; go_at_call 16; refine (works_any _).mono ?_; rintro e w10 ⟨rfl, b10⟩; clear T5 q))
      go_ret
      exact retB rfl (grew_trans B4.out b10)
    · have h1 : (J.length : Int) < prev := by omega
      have h0b : decide (prev < 0) = false := by simpa using h0
      have h1b : decide ((J.length : Int) < prev) = true := by simpa using h1
      clear hbad h0 h1
      go_enter Try.func9, Try.ntmps9
      go_wp2_with (first
        | (have q := T1; go_at_call 11; refine hown.out.mono ?_; intro e w1 hp; obtain ⟨a1, c1, rfl, hs, -, b1⟩ := sl_form hp rfl; have S := Lib.hid hs; have B1 := Lib.hid b1; clear hp hs b1 T1 q; have T2 := trivial)
        | (have q := T2; go_at_call 11; refine (hownf.out _ B1.out).mono ?_; intro e w2 hp; obtain ⟨a2, c2, rfl, hs, -, b2⟩ := sl_form hp rfl; have SF2 := Lib.hid hs; have S2 := Lib.hid (S.out.below b2); have B2 := Lib.hid (grew_trans B1.out b2); clear hp hs b2 T2 q S B1; have T3 := trivial)
        | (have q := T3; go_at_call 17; refine (join_len _ _ _ _ _ _ J FS prev rfl rfl _ S2.out SF2.out (by have := hl.out; have := hlf.out; omega)).mono ?_; rw [HJ.out]; intro e w3 hp; obtain ⟨a3, c3, rfl, hs, -, b3⟩ := sl_form hp rfl; have J3 := Lib.hid hs; have S3 := Lib.hid (S2.out.below b3); have B3 := Lib.hid (grew_trans B2.out b3); clear hp hs b3 T3 q S2 B2; have T4 := trivial)
        | (have q := T4; go_at_call 28; refine (same_len J J _ _ _ _ _ _ rfl rfl _ J3.out S3.out true (by simp)).mono ?_; rintro e w4 ⟨rfl, b4⟩; have B4 := Lib.hid (grew_trans B3.out b4); clear b4 T4 q; have T5 := trivial)
        | (have q := T5; go_at_call 16; refine (works_any _).mono ?_; rintro e w10 ⟨rfl, b10⟩; clear T5 q))
      go_ret
      exact retB rfl (grew_trans B4.out b10)
  · obtain ⟨p, rfl⟩ : ∃ p : Nat, prev = (p : Int) := ⟨prev.toNat, by omega⟩
    have hp : p ≤ ES.length := by omega
    have hF := jf_of (more := FS) hp
    rw [hJ] at hF
    have JFt := Lib.hid hF
    clear hJ hbad hF
    have h0b : decide ((p : Int) < 0) = false := by simp
    have h1b : decide (ES.length < p) = false := by simp; omega
    go_enter Try.func9, Try.ntmps9
    go_upto_region 6 with (first
      | (have q := T1; go_at_call 11; refine hown.out.mono ?_; intro e w1 hp; obtain ⟨a1, c1, rfl, hs, -, b1⟩ := sl_form hp rfl; have S := Lib.hid hs; have B1 := Lib.hid b1; clear hp hs b1 T1 q; have T2 := trivial)
      | (have q := T2; go_at_call 11; refine (hownf.out _ B1.out).mono ?_; intro e w2 hp; obtain ⟨a2, c2, rfl, hs, -, b2⟩ := sl_form hp rfl; have SF2 := Lib.hid hs; have S2 := Lib.hid (S.out.below b2); have B2 := Lib.hid (grew_trans B1.out b2); clear hp hs b2 T2 q S B1; have T3 := trivial)
      | (have q := T3; go_at_call 17; refine (join_len _ _ _ _ _ _ ES FS p rfl rfl _ S2.out SF2.out (by have := hl.out; have := hlf.out; omega)).mono ?_; rw [HJ.out]; intro e w3 hp; obtain ⟨a3, c3, rfl, hs, -, b3⟩ := sl_form hp rfl; have J3 := Lib.hid hs; have S3 := Lib.hid (S2.out.below b3); have SF3 := Lib.hid (SF2.out.below b3); have B3 := Lib.hid (grew_trans B2.out b3); clear hp hs b3 T3 q S2 SF2 B2; have T4 := trivial))
    have jl := JFt.out.len
    have jt := JFt.out.top
    have hl1 := hl.out
    have hl2 := hlf.out
    have la := J3.out.len
    have lb := J3.out.capm
    have lc := S3.out.len
    have ld := S3.out.capm
    have le := SF3.out.len
    have lf := SF3.out.capm
    unfold maxLen at lb ld lf
    have ja : IntKind.i64.wrap ((p : Int) + (FS.length : Int)) = (p : Int) + (FS.length : Int) := IntWalk.i64_in _ (by omega)
    have jb : decide ((J.length : Int) < (p : Int) + (FS.length : Int)) = false := by simp; omega
    have jc : (p : Int) ≤ (c3 : Int) := by omega
    have jd : (p : Int) ≤ (c1 : Int) := by omega
    have hs28 : Hid (∀ w4, Below w3.heap.size w3 w4 → Calls Try.prog 28 #[.slice a3 p c3, .slice a1 p c1] w4 (RetB true w4)) := fun w4 hb => same_len (J.take p) (ES.take p) _ _ _ _ _ _ (by simp; omega) (by simp; omega) _ ((J3.out.take p).below hb) ((S3.out.take p).below hb) true (by simp [JFt.out.ahead])
    refine wp_region_later_lit (by kernel_rfl) (by kernel_rfl) ?_
    repeat (any_goals (first | go_big_quiet_step ((go_at_call 28; exact Calls.laterB (hs28.out _ (Later.h _)))) | quiet_step ((go_at_call 28; exact Calls.laterB (hs28.out _ (Later.h _))))))
    refine wpQuiet_nil ?_
    intro _ hw'
    obtain ⟨y, hw''⟩ := hw'
    subst hw''
    have hy := y.h
    generalize y.w = V0 at hy ⊢
    have J4 := Lib.hid (J3.out.below hy)
    have S4 := Lib.hid (S3.out.below hy)
    have SF4 := Lib.hid (SF3.out.below hy)
    have B4 := Lib.hid (grew_trans B3.out hy)
    clear J3 S3 SF3 B3 hy hs28 ja jb y
    go_wp2
    go_loopg [8] FS.length (fun k v8 wr => ∃ i : Nat, i + k = FS.length ∧ v8 = .int .i64 (i : Int) ∧ Below V0.heap.size V0 wr)
    case atStart => exact ⟨0, by omega, rfl, Below.refl _ _⟩
    case round =>
      obtain ⟨i, hik, rfl, hB⟩ := hrel
      by_cases hlt : i < FS.length
      · obtain ⟨b, off, rfl, hc⟩ := (J4.out.below hB).ents (p + i) (by omega)
        obtain ⟨b', off', rfl, hc'⟩ := (SF4.out.below hB).ents i hlt
        have hte := JFt.out.term i hlt
        have g1 := hc.1
        have g2 := hc'.1
        rw [hte] at g1
        clear hte hc hc'
        generalize (FS.getD i default).1 = t at g1 g2
        have ht : (t != t) = false := by simp
        go_wp2
        have ka : IntKind.i64.wrap ((p : Int) + (i : Int)) = (p : Int) + (i : Int) := IntWalk.i64_in _ (by omega)
        have kb : (0 : Int) ≤ (p : Int) + (i : Int) := by omega
        have kc : ((p : Int) + (i : Int)).toNat = p + i := by omega
        have kd : (p : Int) + (i : Int) < (J.length : Int) := by omega
        go_quiet (fail)
        go_wp2
        go_roundg (gk - 1)
        case measure => omega
        case rel => exact ⟨i + 1, by omega, by simp, grew_trans hB (below_drewN' _ _)⟩
      · have J5 := Lib.hid (J4.out.below hB)
        have S5 := Lib.hid (S4.out.below hB)
        have SF5 := Lib.hid (SF4.out.below hB)
        have B5 := Lib.hid (grew_trans B4.out hB)
        clear J4 S4 SF4 B4
        go_wp2
        clear hB hlt hik
        obtain ⟨V1, hV1⟩ : ∃ V, V = wr := ⟨_, rfl⟩
        subst hV1
        go_loopg [9] (FS.length + 1) (fun k v9 wx => ∃ i : Nat, FS.length + 1 ≤ i + k ∧ i ≤ 1000 ∧ v9 = .int .i64 (i : Int) ∧ Below V1.heap.size V1 wx)
        case atStart => exact ⟨0, by omega, by omega, rfl, Below.refl _ _⟩
        case round =>
          obtain ⟨i, hik, hi, rfl, hB⟩ := hrel
          have J6 := Lib.hid (J5.out.below hB)
          have S6 := Lib.hid (S5.out.below hB)
          have SF6 := Lib.hid (SF5.out.below hB)
          have B6 := Lib.hid (grew_trans B5.out hB)
          by_cases hlt : i ≤ FS.length
          · have HB := Lib.hid hB
            clear S6 B6 hB
            have HK := Lib.hid (JFt.out.again i hlt)
            have htl : Hid ((FS.take i).length = i) := by simp [Hid]; omega
            have ke : (i : Int) ≤ (c2 : Int) := by omega
            have TA := trivial
            go_wp2_with (first
              | (have q := TA; go_at_call 17; refine (join_len _ _ _ _ _ _ J (FS.take i) p rfl htl.out _ J6.out (SF6.out.take i) (by have := htl.out; omega)).mono ?_; rw [HK.out]; intro e w7 hp; obtain ⟨a7, c7, rfl, hs7, -, b7⟩ := sl_form hp rfl; have R7 := Lib.hid hs7; have J7 := Lib.hid (J6.out.below b7); have B7 := Lib.hid (grew_trans HB.out b7); clear hp hs7 b7 TA q J6 SF6 HB; have TB := trivial)
              | (have q := TB; go_at_call 28; refine (same_len J J _ _ _ _ _ _ rfl rfl _ R7.out J7.out true (by simp)).mono ?_; rintro e w8 ⟨rfl, b8⟩; have B8 := Lib.hid (grew_trans B7.out b8); clear b8 TB q B7))
            go_roundg (gk - 1)
            case measure => omega
            case rel => exact ⟨i + 1 + FS.length / 8, by omega, by omega, by rw [show ((i + 1 + FS.length / 8 : Nat) : Int) = (i : Int) + 1 + (FS.length : Int) / 8 from by omega], B8.out⟩
          · clear J5 S5 SF5 B5
            have hp1 := JFt.out.cut
            have hp2 := JFt.out.more
            have ja : IntKind.i64.wrap ((p : Int) + (FS.length : Int)) = (p : Int) + (FS.length : Int) := IntWalk.i64_in _ (by omega)
            by_cases hz : FS.length = 0
            · have hzb : decide ((0 : Int) < (FS.length : Int)) = false := decide_eq_false (by omega)
              have hzc : decide (0 < FS.length) = false := decide_eq_false (by omega)
              clear hz hp1 hp2
              have TA := trivial
              go_wp2_with (first
                | (have q := TA; go_at_call 17; refine (join_len _ _ _ _ _ _ J FS p rfl rfl _ J6.out SF6.out (by omega)).mono ?_; rw [JFt.out.whole]; intro e w7 hp; obtain ⟨a7, c7, rfl, hs7, -, b7⟩ := sl_form hp rfl; have R7 := Lib.hid hs7; have J7 := Lib.hid (J6.out.below b7); have B7 := Lib.hid (grew_trans B6.out b7); clear hp hs7 b7 TA q J6 SF6 B6; have TB := trivial)
                | (have q := TB; go_at_call 28; refine (same_len J J _ _ _ _ _ _ rfl rfl _ R7.out J7.out true (by simp)).mono ?_; rintro e w8 ⟨rfl, b8⟩; have B8 := Lib.hid (grew_trans B7.out b8); clear b8 TB q; have TC := trivial)
                | (have q := TC; go_at_call 16; refine (works_any _).mono ?_; rintro e w10 ⟨rfl, b10⟩; clear TC q))
              go_ret
              exact retB rfl (grew_trans B8.out b10)
            · have hzb : decide ((0 : Int) < (FS.length : Int)) = true := decide_eq_true (by omega)
              have hzc : decide (0 < FS.length) = true := decide_eq_true (by omega)
              clear hz
              by_cases hlen : ES.length < J.length
              · have hlb : decide (ES.length < J.length) = true := by simpa using hlen
                have hne : ((J.length : Int) != (p : Int) + (FS.length : Int)) = false := by have := hp2 hlen; simp; omega
                clear hlen hp1 hp2
                have TA := trivial
                go_wp2_with (first
                  | (have q := TA; go_at_call 17; refine (join_len _ _ _ _ _ _ J FS p rfl rfl _ J6.out SF6.out (by omega)).mono ?_; rw [JFt.out.whole]; intro e w7 hp; obtain ⟨a7, c7, rfl, hs7, -, b7⟩ := sl_form hp rfl; have R7 := Lib.hid hs7; have J7 := Lib.hid (J6.out.below b7); have B7 := Lib.hid (grew_trans B6.out b7); clear hp hs7 b7 TA q J6 SF6 B6; have TB := trivial)
                  | (have q := TB; go_at_call 28; refine (same_len J J _ _ _ _ _ _ rfl rfl _ R7.out J7.out true (by simp)).mono ?_; rintro e w8 ⟨rfl, b8⟩; have B8 := Lib.hid (grew_trans B7.out b8); clear b8 TB q; have TC := trivial)
                  | (have q := TC; go_at_call 16; refine (works_any _).mono ?_; rintro e w10 ⟨rfl, b10⟩; clear TC q))
                go_ret
                exact retB rfl (grew_trans B8.out b10)
              · have hlb : decide (ES.length < J.length) = false := by simpa using hlen
                have kj : (J.length : Int) ≤ (c1 : Int) := by omega
                cases hr : decide (J = ES.take J.length) with
                | true =>
                  clear hp1 hp2
                  have TX := trivial
                  go_wp2_with (first
                    | (have q := TX; go_at_call 28; refine (same_len J (ES.take J.length) _ _ _ _ _ _ rfl (by simp; omega) _ J6.out (S6.out.take J.length) true hr).mono ?_; rintro e wx ⟨rfl, bx⟩; have J6' := Lib.hid (J6.out.below bx); have SF6' := Lib.hid (SF6.out.below bx); have B6' := Lib.hid (grew_trans B6.out bx); clear bx TX q J6 S6 SF6 B6; have J6 := J6'; have SF6 := SF6'; have B6 := B6'; clear J6' SF6' B6'; have TA := trivial)
                    | (have q := TA; go_at_call 17; refine (join_len _ _ _ _ _ _ J FS p rfl rfl _ J6.out SF6.out (by omega)).mono ?_; rw [JFt.out.whole]; intro e w7 hp; obtain ⟨a7, c7, rfl, hs7, -, b7⟩ := sl_form hp rfl; have R7 := Lib.hid hs7; have J7 := Lib.hid (J6.out.below b7); have B7 := Lib.hid (grew_trans B6.out b7); clear hp hs7 b7 TA q J6 SF6 B6; have TB := trivial)
                    | (have q := TB; go_at_call 28; refine (same_len J J _ _ _ _ _ _ rfl rfl _ R7.out J7.out true (by simp)).mono ?_; rintro e w8 ⟨rfl, b8⟩; have B8 := Lib.hid (grew_trans B7.out b8); clear b8 TB q; have TC := trivial)
                    | (have q := TC; go_at_call 16; refine (works_any _).mono ?_; rintro e w10 ⟨rfl, b10⟩; clear TC q))
                  go_ret
                  exact retB rfl (grew_trans B8.out b10)
                | false =>
                  have hne : ((J.length : Int) != (p : Int) + (FS.length : Int)) = false := by have := hp1 (by omega) (by simpa using hr); simp; omega
                  clear hp1 hp2
                  have TX := trivial
                  go_wp2_with (first
                    | (have q := TX; go_at_call 28; refine (same_len J (ES.take J.length) _ _ _ _ _ _ rfl (by simp; omega) _ J6.out (S6.out.take J.length) false hr).mono ?_; rintro e wx ⟨rfl, bx⟩; have J6' := Lib.hid (J6.out.below bx); have SF6' := Lib.hid (SF6.out.below bx); have B6' := Lib.hid (grew_trans B6.out bx); clear bx TX q J6 S6 SF6 B6; have J6 := J6'; have SF6 := SF6'; have B6 := B6'; clear J6' SF6' B6'; have TA := trivial)
                    | (have q := TA; go_at_call 17; refine (join_len _ _ _ _ _ _ J FS p rfl rfl _ J6.out SF6.out (by omega)).mono ?_; rw [JFt.out.whole]; intro e w7 hp; obtain ⟨a7, c7, rfl, hs7, -, b7⟩ := sl_form hp rfl; have R7 := Lib.hid hs7; have J7 := Lib.hid (J6.out.below b7); have B7 := Lib.hid (grew_trans B6.out b7); clear hp hs7 b7 TA q J6 SF6 B6; have TB := trivial)
                    | (have q := TB; go_at_call 28; refine (same_len J J _ _ _ _ _ _ rfl rfl _ R7.out J7.out true (by simp)).mono ?_; rintro e w8 ⟨rfl, b8⟩; have B8 := Lib.hid (grew_trans B7.out b8); clear b8 TB q; have TC := trivial)
                    | (have q := TC; go_at_call 16; refine (works_any _).mono ?_; rintro e w10 ⟨rfl, b10⟩; clear TC q))
                  go_ret
                  exact retB rfl (grew_trans B8.out b10)
end Go.Proofs.Ythfchmdfoaiibaa
