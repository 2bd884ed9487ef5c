/- The power goes at the n-th operation: the walk. -/
import Derived.Test.YtcgkdomfbkkboaaFusesP
namespace Go.Proofs.Ytcgkdomfbkkboaa
open Go.RowKit Go.Joins Go.ChangeMaps

theorem d_armn {w0 w : World} {F : Nat → Prop} {p bm : Nat} {n : Int} (h : DE w0 w F p bm (newS 64 64)) (hn : n ≤ 60) : Calls Try.prog 22 #[.pointer (some ⟨p, 0, none⟩), .int .i64 n] w (Tup0 (Stp w0 w F p bm (armS (newS 64 64) n))) := d_arm h (by omega)
set_option maxHeartbeats 16000000 in
set_option maxRecDepth 100000 in
theorem lawFuses (a0 : Int) (W : World) (h0 : 0 ≤ a0) (h1 : a0 ≤ 255) : Calls Try.prog 5 #[.int .u8 a0] W (RetB true W) := by
  go_enter Try.func5, Try.ntmps5
  go_upto_region 4 with (first
    | (go_at_call 16; refine (works_any _).mono ?_; rintro e w1 ⟨rfl, hb⟩; have B := Lib.hid hb; clear hb))
  have hn1 : 1 ≤ 1 + a0 % 60 := by omega
  have hn2 : 1 + a0 % 60 ≤ 60 := by omega
  generalize 1 + a0 % 60 = n at *
  generalize a0 % 60 = a1 at *
  clear h0 h1
  go_upto_region 7 with (first
    | (go_at_call 9; refine (d_new 64 64 (by omega) (by omega) (by omega) (by omega)).mono ?_; rintro e w2 ⟨rfl, hN⟩; have N := Lib.hid hN; clear hN)
    | (go_at_call 22; refine (d_armn N.out hn2).mono ?_; rintro e w3 ⟨rfl, hs⟩; have N' := Lib.hid hs.1; clear N hs; have N := N'; clear N'))
  have hfz := Lib.hid (fz_start n hn1)
  generalize armS (newS 64 64) n = s0 at *
  have B2 := Lib.hid (B.out.trans (N.out.bel.mono B.out.size))
  generalize w1.heap.size = q at *
  go_loopg [5, 6] 60 (fun gk v5 v6 wr => ∃ j : Nat, (j : Int) + 1 ≤ n ∧ j + gk = 60 ∧ v5 = .int .i64 ((j : Int) + 1) ∧ ∃ s, DE w1 wr (fun _ => False) (q + 1) q s ∧ Fz n j s)
  case atStart => exact ⟨0, by omega, by omega, rfl, s0, N.out, hfz.out⟩
  case round =>
    obtain ⟨j, hjn, hjk, rfl, s, hD, hF⟩ := hrel
    clear hfz N
    have N := Lib.hid hD
    have HF := Lib.hid hF
    clear hD hF
    by_cases hlt : (j : Int) + 1 < n
    · by_cases hev : ((j : Int) + 1) % 2 = 0
      · have e0 : ((j : Int) + 1).tmod 2 = 0 := by rw [Int.tmod_eq_emod_of_nonneg (by omega)]; exact hev
        obtain ⟨s', e1, hF1⟩ := fz_flush HF.out (by omega) hlt hev
        have E1 := Lib.hid e1
        have F1 := Lib.hid hF1
        have HLT := Lib.hid (show ((j + 1 : Nat) : Int) + 1 ≤ n by omega)
        clear hev e1 hF1
        go_wp2_with (first
          | (go_at_call 17; refine (d_flush N.out E1.out).mono ?_; rintro e w3 ⟨rfl, hs⟩; have N' := Lib.hid hs.1; clear N hs E1; have N := N'; clear N')
          | (go_at_call 21; refine (d_onF N.out F1.out.off).mono ?_; rintro e w1 ⟨rfl, rfl⟩))
        go_roundg (gk - 1)
        case measure => omega
        case rel => exact ⟨j + 1, HLT.out, by omega, by simp, s', N.out, F1.out⟩
      · have hod : ((j : Int) + 1) % 2 = 1 := by omega
        have e0 : ((j : Int) + 1).tmod 2 = 1 := by rw [Int.tmod_eq_emod_of_nonneg (by omega)]; exact hod
        obtain ⟨s', e1, hF1⟩ := fz_write N.out.good HF.out (by omega) hlt hn2 hod
        have E1 := Lib.hid e1
        have F1 := Lib.hid hF1
        have HLT := Lib.hid (show ((j + 1 : Nat) : Int) + 1 ≤ n by omega)
        clear hev hod e1 hF1
        go_wp2_with (first
          | (go_at_call 12; refine (d_dA _).mono ?_; rintro e w9 ⟨rfl, hb⟩; have N' := Lib.hid (N.out.below hb); clear N hb; have N := N'; clear N')
          | (go_at_call 11; refine (d_write N.out (by have := HF.out.more; omega) E1.out).mono ?_; rintro e w3 ⟨rfl, hs⟩; have N' := Lib.hid hs.1; clear N hs E1; have N := N'; clear N')
          | (go_at_call 21; refine (d_onF N.out F1.out.off).mono ?_; rintro e w1 ⟨rfl, rfl⟩))
        go_roundg (gk - 1)
        case measure => omega
        case rel => exact ⟨j + 1, HLT.out, by omega, by simp, s', N.out, F1.out⟩
    · have hnj : n = (j : Int) + 1 := by omega
      have hge : n ≤ (j : Int) + 1 := by omega
      have hF1 := HF.out
      rw [show (j : Int) = n - 1 by omega] at hF1
      have HF1 := Lib.hid hF1
      have HM := Lib.hid (show s.more.length ≤ 1000000 by have := hF1.more; omega)
      clear hF1 HF hlt hjk
      by_cases hev : n % 2 = 0
      · have e0 : n.tmod 2 = 0 := by rw [Int.tmod_eq_emod_of_nonneg (by omega)]; exact hev
        obtain ⟨s', e1, hG⟩ := fz_flush_end HF1.out hn2
        have E1 := Lib.hid e1
        have G := Lib.hid hG
        have HM2 := Lib.hid (show s'.more.length ≤ 1000000 by have := hG.more; omega)
        clear hev e1 hG hnj
        have T1 := trivial
        go_upto_region 23 with (first
          | (have z := T1; go_at_call 17; refine (d_flush N.out E1.out).mono ?_; rintro e w3 ⟨rfl, hs⟩; have N' := Lib.hid hs.1; clear N hs z T1; have N := N'; clear N'; have T2 := trivial)
          | (have z := T1; go_at_call 12; refine (d_dA _).mono ?_; rintro e w9 ⟨rfl, hb⟩; have N' := Lib.hid (N.out.below hb); clear N hb z; have N := N'; clear N')
          | (have z := T1; go_at_call 11; refine (d_write N.out HM.out E1.out).mono ?_; rintro e w3 ⟨rfl, hs⟩; have N' := Lib.hid hs.1; clear N hs z T1; have N := N'; clear N'; have T2 := trivial)
          | (have z := T2; go_at_call 21; refine (d_onT N.out G.out.off).mono ?_; rintro e w9 ⟨rfl, rfl⟩; clear z)
          | (have z := T2; go_at_call 12; refine (d_dA _).mono ?_; rintro e w9 ⟨rfl, hb⟩; have N' := Lib.hid (N.out.below hb); clear N hb z; have N := N'; clear N')
          | (have z := T2; go_at_call 11; refine (d_write N.out HM2.out (write_dark G.out.off)).mono ?_; rintro e w3 ⟨rfl, hs⟩; have N' := Lib.hid hs.1; clear N hs z; have N := N'; clear N')
          | (have z := T2; go_at_call 17; refine (d_flush N.out (flush_dark G.out.off)).mono ?_; rintro e w3 ⟨rfl, hs⟩; have N' := Lib.hid hs.1; clear N hs z T2; have N := N'; clear N')
          | (go_at_call 20; refine (d_wake (ka := none) (kc := 0) (n := 0) (ks := []) N.out HM2.out (lst_nil _ _ _) rfl rfl).mono ?_; rintro e w4 ⟨rfl, hs⟩; have N' := Lib.hid hs.1; clear N hs; have N := N'; clear N'))
        have HB := Lib.hid (back_of G.out)
        generalize wakeS s' [] = s2 at *
        clear G HM2 HM HF1 E1
        go_loopg [8, 9, 10] 64 (fun gk v8 v9 v10 wr => ∃ k : Nat, k + gk = 64 ∧ v8 = .int .i64 (2 * (k : Int) + 1) ∧ DE w1 wr (fun _ => False) (q + 1) q s2)
        case atStart => exact ⟨0, by omega, rfl, N.out⟩
        case round =>
          obtain ⟨k, hkk, rfl, hD⟩ := hrel
          clear N
          have N := Lib.hid hD
          clear hD
          by_cases hlt : 2 * (k : Int) + 1 < 64
          · have hR := back_read HB.out (i := 2 * (k : Int) + 1) (by omega) hlt (by omega)
            have hx1 : 2 * (k : Int) + 1 + 1 = 2 * (k : Int) + 2 := by omega
            have hx2 : 2 * (k : Int) + 1 + 2 = 2 * ((k + 1 : Nat) : Int) + 1 := by omega
            by_cases hc : 2 * (k : Int) + 2 < n
            · rw [if_pos (by omega)] at hR
              have HR := Lib.hid hR
              clear hR
              go_wp2_with (first
                | (go_at_call 18; refine (d_read N.out HR.out).mono ?_; rintro e w9 ⟨rfl, hb⟩; have N' := Lib.hid (N.out.below hb); clear N hb; have N := N'; clear N')
                | (go_at_call 12; refine (d_dA _).mono ?_; rintro e w9 ⟨rfl, hb⟩; have N' := Lib.hid (N.out.below hb); clear N hb; have N := N'; clear N'))
              go_roundg (gk - 1)
              case measure => omega
              case rel => exact ⟨k + 1, by omega, by simp, N.out⟩
            · rw [if_neg (by omega)] at hR
              have HR := Lib.hid hR
              have hge2 : n ≤ 2 * (k : Int) + 2 := by omega
              have hz := wA_wZ
              clear hR hc
              go_wp2_with (first
                | (go_at_call 18; refine (d_read N.out HR.out).mono ?_; rintro e w9 ⟨rfl, hb⟩; have N' := Lib.hid (N.out.below hb); clear N hb; have N := N'; clear N')
                | (go_at_call 12; refine (d_dA _).mono ?_; rintro e w9 ⟨rfl, hb⟩; have N' := Lib.hid (N.out.below hb); clear N hb; have N := N'; clear N'))
              go_roundg (gk - 1)
              case measure => omega
              case rel => exact ⟨k + 1, by omega, by simp, N.out⟩
          · have hge : 64 ≤ 2 * (k : Int) + 1 := by omega
            obtain ⟨s3, e3, o3, f3⟩ := back_write N.out.good HB.out
            obtain ⟨s4, e4, o4⟩ := back_flush o3 f3
            have E3 := Lib.hid e3
            have E4 := Lib.hid e4
            have O4 := Lib.hid o4
            have M2 := Lib.hid (show s2.more.length ≤ 1000000 by rw [HB.out.more]; simp)
            clear hlt e3 e4 o4 o3 f3
            go_wp2_with (first
              | (go_at_call 12; refine (d_dA _).mono ?_; rintro e w9 ⟨rfl, hb⟩; have N' := Lib.hid (N.out.below hb); clear N hb; have N := N'; clear N')
              | (go_at_call 11; refine (d_write N.out M2.out E3.out).mono ?_; rintro e w3 ⟨rfl, hs⟩; have N' := Lib.hid hs.1; clear N hs; have N := N'; clear N')
              | (go_at_call 17; refine (d_flush N.out E4.out).mono ?_; rintro e w3 ⟨rfl, hs⟩; have N' := Lib.hid hs.1; clear N hs; have N := N'; clear N')
              | (go_at_call 21; refine (d_onF N.out (by simpa using O4.out)).mono ?_; rintro e w5 ⟨rfl, rfl⟩))
            go_ret
            exact retB rfl (B.out.trans (N.out.bel.mono B.out.size))
      · have hod : n % 2 = 1 := by omega
        have e0 : n.tmod 2 = 1 := by rw [Int.tmod_eq_emod_of_nonneg (by omega)]; exact hod
        obtain ⟨s', e1, hG⟩ := fz_write_end N.out.good HF1.out hn1 hn2
        have E1 := Lib.hid e1
        have G := Lib.hid hG
        have HM2 := Lib.hid (show s'.more.length ≤ 1000000 by have := hG.more; omega)
        clear hev hod e1 hG hnj
        have T1 := trivial
        go_upto_region 23 with (first
          | (have z := T1; go_at_call 17; refine (d_flush N.out E1.out).mono ?_; rintro e w3 ⟨rfl, hs⟩; have N' := Lib.hid hs.1; clear N hs z T1; have N := N'; clear N'; have T2 := trivial)
          | (have z := T1; go_at_call 12; refine (d_dA _).mono ?_; rintro e w9 ⟨rfl, hb⟩; have N' := Lib.hid (N.out.below hb); clear N hb z; have N := N'; clear N')
          | (have z := T1; go_at_call 11; refine (d_write N.out HM.out E1.out).mono ?_; rintro e w3 ⟨rfl, hs⟩; have N' := Lib.hid hs.1; clear N hs z T1; have N := N'; clear N'; have T2 := trivial)
          | (have z := T2; go_at_call 21; refine (d_onT N.out G.out.off).mono ?_; rintro e w9 ⟨rfl, rfl⟩; clear z)
          | (have z := T2; go_at_call 12; refine (d_dA _).mono ?_; rintro e w9 ⟨rfl, hb⟩; have N' := Lib.hid (N.out.below hb); clear N hb z; have N := N'; clear N')
          | (have z := T2; go_at_call 11; refine (d_write N.out HM2.out (write_dark G.out.off)).mono ?_; rintro e w3 ⟨rfl, hs⟩; have N' := Lib.hid hs.1; clear N hs z; have N := N'; clear N')
          | (have z := T2; go_at_call 17; refine (d_flush N.out (flush_dark G.out.off)).mono ?_; rintro e w3 ⟨rfl, hs⟩; have N' := Lib.hid hs.1; clear N hs z T2; have N := N'; clear N')
          | (go_at_call 20; refine (d_wake (ka := none) (kc := 0) (n := 0) (ks := []) N.out HM2.out (lst_nil _ _ _) rfl rfl).mono ?_; rintro e w4 ⟨rfl, hs⟩; have N' := Lib.hid hs.1; clear N hs; have N := N'; clear N'))
        have HB := Lib.hid (back_of G.out)
        generalize wakeS s' [] = s2 at *
        clear G HM2 HM HF1 E1
        go_loopg [8, 9, 10] 64 (fun gk v8 v9 v10 wr => ∃ k : Nat, k + gk = 64 ∧ v8 = .int .i64 (2 * (k : Int) + 1) ∧ DE w1 wr (fun _ => False) (q + 1) q s2)
        case atStart => exact ⟨0, by omega, rfl, N.out⟩
        case round =>
          obtain ⟨k, hkk, rfl, hD⟩ := hrel
          clear N
          have N := Lib.hid hD
          clear hD
          by_cases hlt : 2 * (k : Int) + 1 < 64
          · have hR := back_read HB.out (i := 2 * (k : Int) + 1) (by omega) hlt (by omega)
            have hx1 : 2 * (k : Int) + 1 + 1 = 2 * (k : Int) + 2 := by omega
            have hx2 : 2 * (k : Int) + 1 + 2 = 2 * ((k + 1 : Nat) : Int) + 1 := by omega
            by_cases hc : 2 * (k : Int) + 2 < n
            · rw [if_pos (by omega)] at hR
              have HR := Lib.hid hR
              clear hR
              go_wp2_with (first
                | (go_at_call 18; refine (d_read N.out HR.out).mono ?_; rintro e w9 ⟨rfl, hb⟩; have N' := Lib.hid (N.out.below hb); clear N hb; have N := N'; clear N')
                | (go_at_call 12; refine (d_dA _).mono ?_; rintro e w9 ⟨rfl, hb⟩; have N' := Lib.hid (N.out.below hb); clear N hb; have N := N'; clear N'))
              go_roundg (gk - 1)
              case measure => omega
              case rel => exact ⟨k + 1, by omega, by simp, N.out⟩
            · rw [if_neg (by omega)] at hR
              have HR := Lib.hid hR
              have hge2 : n ≤ 2 * (k : Int) + 2 := by omega
              have hz := wA_wZ
              clear hR hc
              go_wp2_with (first
                | (go_at_call 18; refine (d_read N.out HR.out).mono ?_; rintro e w9 ⟨rfl, hb⟩; have N' := Lib.hid (N.out.below hb); clear N hb; have N := N'; clear N')
                | (go_at_call 12; refine (d_dA _).mono ?_; rintro e w9 ⟨rfl, hb⟩; have N' := Lib.hid (N.out.below hb); clear N hb; have N := N'; clear N'))
              go_roundg (gk - 1)
              case measure => omega
              case rel => exact ⟨k + 1, by omega, by simp, N.out⟩
          · have hge : 64 ≤ 2 * (k : Int) + 1 := by omega
            obtain ⟨s3, e3, o3, f3⟩ := back_write N.out.good HB.out
            obtain ⟨s4, e4, o4⟩ := back_flush o3 f3
            have E3 := Lib.hid e3
            have E4 := Lib.hid e4
            have O4 := Lib.hid o4
            have M2 := Lib.hid (show s2.more.length ≤ 1000000 by rw [HB.out.more]; simp)
            clear hlt e3 e4 o4 o3 f3
            go_wp2_with (first
              | (go_at_call 12; refine (d_dA _).mono ?_; rintro e w9 ⟨rfl, hb⟩; have N' := Lib.hid (N.out.below hb); clear N hb; have N := N'; clear N')
              | (go_at_call 11; refine (d_write N.out M2.out E3.out).mono ?_; rintro e w3 ⟨rfl, hs⟩; have N' := Lib.hid hs.1; clear N hs; have N := N'; clear N')
              | (go_at_call 17; refine (d_flush N.out E4.out).mono ?_; rintro e w3 ⟨rfl, hs⟩; have N' := Lib.hid hs.1; clear N hs; have N := N'; clear N')
              | (go_at_call 21; refine (d_onF N.out (by simpa using O4.out)).mono ?_; rintro e w5 ⟨rfl, rfl⟩))
            go_ret
            exact retB rfl (B.out.trans (N.out.bel.mono B.out.size))
end Go.Proofs.Ytcgkdomfbkkboaa
