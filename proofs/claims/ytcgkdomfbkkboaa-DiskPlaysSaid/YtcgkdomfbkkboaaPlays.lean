/- Whatever is done to a disk: the law. -/
import Derived.Test.YtcgkdomfbkkboaaCx
import Derived.Test.YtcgkdomfbkkboaaWorks
namespace Go.Proofs.Ytcgkdomfbkkboaa
open Go.RowKit Go.Joins Go.ChangeMaps

theorem box2 {W : World} {b : Nat} {x0 x1 : Int} (h : W.heap[b]? = some (.cells #[.int .i64 x0, .int .i64 x1] 50 (0, 0))) : W.cell? ⟨b, 0, none⟩ = some (.int .i64 x0) ∧ W.cell? ⟨b, 1, none⟩ = some (.int .i64 x1) := ⟨(cell_of h 0 rfl).1, (cell_of h 1 rfl).1⟩
theorem le_of_wf {a : Int} (h : (Lit.int .i64 a).wf = true) : a ≤ 9223372036854775807 := by
  simp [Lit.wf, IntKind.min, IntKind.max, IntKind.signed, IntKind.bits] at h; omega
theorem wf_small {a : Int} (h0 : 0 ≤ a) (h1 : a ≤ 1000) : (Lit.int .i64 a).wf = true := by
  simp [Lit.wf, IntKind.min, IntKind.max, IntKind.signed, IntKind.bits]; omega
def NewEx (w : World) (s : St) (e : Ending) (w' : World) : Prop := ∃ p bm v, e = .returned (.pointer (some ⟨p, 0, none⟩)) ∧ PD w' w.heap.size p bm v s ∧ Below w.heap.size w w'
theorem new_ex (n room : Int) (w : World) (h1 : 1 ≤ n) (h2 : n ≤ 1024) (h3 : 0 ≤ room) : Calls Try.prog 9 #[.int .i64 n, .int .i64 room] w (NewEx w (newS n room)) :=
  (new_any n room w h1 h2 h3).mono fun _ _ ⟨he, h, hb⟩ => ⟨_, _, _, he, h, hb⟩
theorem rnew_ex (n room : Int) (w : World) (h1 : 1 ≤ n) (h2 : n ≤ 1024) (h3 : 0 ≤ room) : Calls Try.prog 10 #[.int .i64 n, .int .i64 room] w (RNewP w (newS n room)) := by
  obtain ⟨m, rfl⟩ : ∃ m : Nat, n = m := ⟨n.toNat, by omega⟩
  exact rnew_any m room w (by omega) (by omega) h3
variable {W wr : World} {p bm q : Nat} {bv nv : Value} {s : St}
set_option linter.unusedVariables false in
set_option maxHeartbeats 16000000 in
set_option maxRecDepth 100000 in
theorem lawPlays (a0 : Option Addr) (cap0 : Nat) (acts : List Ac) (x0 x1 cp : Int) (W : World) (hin : Acts W a0 acts) (w0 : (Lit.int .i64 x0).wf = true) (w1 : (Lit.int .i64 x1).wf = true) (h2 : 0 ≤ cp) (h3 : cp ≤ 255) (hle : acts.length ≤ maxLen) :
    Calls Try.prog 7 #[.slice a0 acts.length cap0, .agg #[.int .i64 x0, .int .i64 x1], .int .u8 cp] W (RetB true W) := by
  unfold maxLen at hle
  have mixed : Try.prog.follows .mixedOrders = true := by kernel_rfl
  have HB0 := Lib.hid (bel1 W (.cells #[.int .i64 x0, .int .i64 x1] 50))
  have HX := Lib.hid (heap_alloc_new W (.cells #[.int .i64 x0, .int .i64 x1] 50))
  have HWF := Lib.hid (le_of_wf w1)
  clear w0 w1
  by_cases hr : x0 < 1 ∨ 1024 < x0 ∨ x1 < 0
  · have hn := Lib.hid (fun W => new_out x0 x1 W hr)
    have hm := Lib.hid (fun W => rnew_out x0 x1 W hr)
    clear hin hr
    go_enter Try.func7, Try.ntmps7
    go_upto_region 1 with fail
    generalize hX : W.alloc (.cells #[.int .i64 x0, .int .i64 x1] 50) = X at *
    generalize hnb : W.heap.size = nb at *
    have HNB := Lib.hid hnb
    clear hX hnb
    obtain ⟨y0, y1⟩ := box2 HX.out
    go_region_held3 (fun w' => w'.cell? ⟨nb, 0, none⟩ = some (.int .i64 x0) ∧ w'.cell? ⟨nb, 1, none⟩ = some (.int .i64 x1)) (first | exact ⟨y0, y1⟩ | go_keep) (first
      | (go_at_call 9; refine (hn.out _).mono ?_; rintro e w5 ⟨rfl, rfl⟩)
      | (go_at_call 10; refine (hm.out _).mono ?_; rintro e w6 ⟨rfl, rfl⟩))
    all_goals (
      go_wp2_with (go_at_call 16; refine (works_any _).mono ?_; rintro e w7 ⟨rfl, hb⟩)
      go_ret
      exact retB rfl (by have h := HB0.out; rw [← HNB.out] at h; exact grew_trans h (grew_trans ((Below.refl _ X).drew) hb)))
  · have hn := Lib.hid (fun V => new_ex x0 x1 V (by omega) (by omega) (by omega))
    have hm := Lib.hid (fun V => rnew_ex x0 x1 V (by omega) (by omega) (by omega))
    have HR := Lib.hid (show 1 ≤ x0 ∧ x0 ≤ 1024 ∧ 0 ≤ x1 from by omega)
    have HIn := Lib.hid hin
    generalize hla : acts.length = n0 at *
    have HN0 := Lib.hid hla
    clear hin hr hla
    go_enter Try.func7, Try.ntmps7
    go_upto_region 1 with fail
    generalize hX : W.alloc (.cells #[.int .i64 x0, .int .i64 x1] 50) = X at *
    generalize hnb : W.heap.size = nb at *
    have HNB := Lib.hid hnb
    clear hX hnb
    obtain ⟨y0, y1⟩ := box2 HX.out
    go_region_held3 (fun w' => w'.cell? ⟨nb, 0, none⟩ = some (.int .i64 x0) ∧ w'.cell? ⟨nb, 1, none⟩ = some (.int .i64 x1)) (first | exact box2 HX2.out | exact box2 HX1.out | exact ⟨y0, y1⟩ | go_keep) (first
      | (have z := HX1; go_at_call 9; refine (hn.out _).mono ?_; rintro e w6 ⟨p, bm, v, rfl, hP, hBp⟩; have P2 := Lib.hid hP; have B2 := Lib.hid hBp; have HX2 := Lib.hid (blk_below HX1.out hBp); obtain ⟨x2, x3⟩ := box2 HX2.out; clear hP hBp z)
      | (have z := HX1; go_at_call 10; refine (hm.out _).mono ?_; rintro e w6 ⟨q, bv, nv, rfl, hP, hBp⟩; have P2 := Lib.hid hP; have B2 := Lib.hid hBp; have HX2 := Lib.hid (blk_below HX1.out hBp); obtain ⟨x2, x3⟩ := box2 HX2.out; clear hP hBp z)
      | (go_at_call 9; refine (hn.out _).mono ?_; rintro e w5 ⟨p, bm, v, rfl, hP, hBp⟩; have P1 := Lib.hid hP; have B1 := Lib.hid hBp; have HX1 := Lib.hid (blk_below (blk_below HX.out (Below.refl _ X).drew) hBp); obtain ⟨x2, x3⟩ := box2 HX1.out; clear hP hBp)
      | (go_at_call 10; refine (hm.out _).mono ?_; rintro e w5 ⟨q, bv, nv, rfl, hP, hBp⟩; have P1 := Lib.hid hP; have B1 := Lib.hid hBp; have HX1 := Lib.hid (blk_below (blk_below HX.out (Below.refl _ X).drew) hBp); obtain ⟨x2, x3⟩ := box2 HX1.out; clear hP hBp))
    all_goals (
      have N0 : Hid (BE W w6 (fun _ => False) p bm q bv nv (newS x0 x1) (newS x0 x1)) := by
        have h := HB0.out
        rw [← HNB.out] at h
        have h' := grew_trans h ((Below.refl _ X).drew)
        refine Lib.hid ?_
        first | exact be_rp HR.out.1 HR.out.2.1 HR.out.2.2 HWF.out h' B1.out B2.out P1.out P2.out | exact be_pr HR.out.1 HR.out.2.1 HR.out.2.2 HWF.out h' B1.out B2.out P1.out P2.out
      clear P1 P2 B1 B2 HX1 HX2 y0 y1 hn hm HR HB0 HX HNB HWF
      go_wp2
      go_loopg [7, 8, 9, 10] 100 (fun gk v7 v8 v9 v10 wr => ∃ i : Nat, i + gk = 100 ∧ i ≤ n0 ∧ v9 = .int .i64 (i : Int) ∧ ∃ p bm q bv nv s, v7 = .pointer (some ⟨p, 0, none⟩) ∧ v8 = .pointer (some ⟨q, 0, none⟩) ∧ BE W wr (fun _ => False) p bm q bv nv s s ∧ s.more.length ≤ i)
      case atStart => exact ⟨0, by omega, by omega, rfl, p, bm, q, bv, nv, _, rfl, rfl, N0.out, by simp [newS]⟩
      case round =>
        clear N0
        obtain ⟨i, hik, hi0, rfl, p, bm, q, bv, nv, s, rfl, rfl, hN, hs⟩ := hrel
        have N := Lib.hid hN
        have HS := Lib.hid hs
        clear hN hs
        by_cases hgo : i < n0 ∧ i < 100
        · obtain ⟨hlt, h100⟩ := hgo
          have hli : (i : Int) < (n0 : Int) := by omega
          have h100i : (i : Int) < 100 := by omega
          obtain ⟨b, off, ka, kc, hab, t0, t1, t2, t3, hk, hwf, u0, u1⟩ := HIn.out i (by have := HN0.out; omega)
          subst hab
          generalize acts.getD i default = act at *
          obtain ⟨what, x, c, ks⟩ := act
          simp only at t0 t1 t2 t3 hk hwf u0 u1
          have g0 := keepc' t0 N.out.bel
          have g1 := keepc' t1 N.out.bel
          have g2 := keepc' t2 N.out.bel
          have g3 := keepc' t3 N.out.bel
          have T0 := Lib.hid t0
          have T1 := Lib.hid t1
          have T2 := Lib.hid t2
          have T3 := Lib.hid t3
          have HK := Lib.hid hk
          have HWF := Lib.hid hwf
          have hx := le_of_wf hwf
          have HM := Lib.hid (Nat.le_trans (do_more s what x c ks) (Nat.succ_le_succ HS.out))
          have HW8 := Lib.hid (wf_small (a := (i : Int) % 8) (by omega) (by omega))
          have HSB := Lib.hid (show s.more.length ≤ 1000000 by have := HS.out; omega)
          clear t0 t1 t2 t3 hk hwf hlt
          by_cases hq : (i : Int) = cp % 100
          · have hqb : ((i : Int) == cp % 100) = true := by simp [hq]
            clear hq
            go_wp2_with (first
              | (go_at_call 24; refine (cx_copy N.out HSB.out).mono ?_; rintro e wa ⟨p', bm', v', mv', rfl, hC⟩; have C1 := Lib.hid hC; clear hC)
              | (go_at_call 19; refine (cx_off C1.out).mono ?_; rintro e wb ⟨rfl, hC⟩; have C2 := Lib.hid hC; clear hC C1)
              | (go_at_call 20; refine (cx_wake C2.out (by simpa [offS] using HSB.out)).mono ?_; rintro e wc ⟨rfl, hC⟩; have C3 := Lib.hid hC; clear hC C2)
              | (go_at_call 12; refine (data_any 120 _ (by omega) (by omega)).mono ?_; rintro e wd ⟨rfl, hb⟩; have C4 := Lib.hid (C3.out.below hb); clear hb C3)
              | (go_at_call 11; refine (cx_write C4.out (Nat.le_trans (wake_more _ _) (by simpa [offS] using HSB.out))).mono ?_; rintro e we ⟨rfl, hC⟩; have C5 := Lib.hid hC; clear hC C4)
              | (go_at_call 25; refine (cx_room C5.out (by omega)).mono ?_; rintro e wf ⟨rfl, hC⟩; have C6 := Lib.hid hC; clear hC C5)
              | (go_at_call 26; refine (cx_rcopy C6.out HSB.out).mono ?_; rintro e wg ⟨q', bv', nv', rfl, hB⟩; have M := Lib.hid hB; have k0 := keepc' T0.out hB.bel; have k1 := keepc' T1.out hB.bel; have k2 := keepc' T2.out hB.bel; have k3 := keepc' T3.out hB.bel; clear hB C6 g0 g1 g2 g3)
              | (go_at_call 27; refine (do_any what x c ka _ kc ks u0 u1 hx M.out HSB.out HK.out rfl).mono ?_; rintro e wh ⟨rfl, hB⟩; have O := Lib.hid hB; have l1 := keepc' T1.out hB.bel; have tk1 := trivial; clear hB M)
              | (have z := tk1; go_at_call 28; refine (same_any x HWF.out O.out).mono ?_; rintro e wi ⟨rfl, hb⟩; have O1 := Lib.hid (O.out.below hb); have tk2 := trivial; clear z tk1 hb O)
              | (have z := tk2; go_at_call 28; refine (same_any _ HW8.out O1.out).mono ?_; rintro e wj ⟨rfl, hb⟩; have O2 := Lib.hid (O1.out.below hb); clear z tk2 hb O1))
            go_roundg (gk - 1)
            case measure => omega
            case rel => exact ⟨i + 1, by omega, by omega, by simp, _, _, _, _, _, _, rfl, rfl, O2.out, HM.out⟩
          · have hqb : ((i : Int) == cp % 100) = false := by simp [hq]
            clear hq
            go_wp2_with (first
              | (go_at_call 27; refine (do_any what x c ka _ kc ks u0 u1 hx N.out HSB.out HK.out rfl).mono ?_; rintro e wh ⟨rfl, hB⟩; have O := Lib.hid hB; have l1 := keepc' T1.out hB.bel; have tk1 := trivial; clear hB N)
              | (have z := tk1; go_at_call 28; refine (same_any x HWF.out O.out).mono ?_; rintro e wi ⟨rfl, hb⟩; have O1 := Lib.hid (O.out.below hb); have tk2 := trivial; clear z tk1 hb O)
              | (have z := tk2; go_at_call 28; refine (same_any _ HW8.out O1.out).mono ?_; rintro e wj ⟨rfl, hb⟩; have O2 := Lib.hid (O1.out.below hb); clear z tk2 hb O1))
            go_roundg (gk - 1)
            case measure => omega
            case rel => exact ⟨i + 1, by omega, by omega, by simp, _, _, _, _, _, _, rfl, rfl, O2.out, HM.out⟩
        · by_cases hge : n0 ≤ i
          · have hgei : (n0 : Int) ≤ (i : Int) := by omega
            clear hgo
            go_wp2_with (go_at_call 16; refine (works_any _).mono ?_; rintro e w9 ⟨rfl, hb⟩)
            go_ret
            exact retB rfl (grew_trans N.out.bel hb)
          · have hli : (i : Int) < (n0 : Int) := by omega
            have h100i : (100 : Int) ≤ (i : Int) := by omega
            clear hgo
            go_wp2_with (go_at_call 16; refine (works_any _).mono ?_; rintro e w9 ⟨rfl, hb⟩)
            go_ret
            exact retB rfl (grew_trans N.out.bel hb))
end Go.Proofs.Ytcgkdomfbkkboaa
