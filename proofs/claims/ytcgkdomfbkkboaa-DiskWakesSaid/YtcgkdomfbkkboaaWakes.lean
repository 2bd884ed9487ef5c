/- What stays behind a Wake: the walk. -/
import Derived.Test.YtcgkdomfbkkboaaIns
namespace Go.Proofs.Ytcgkdomfbkkboaa
open Go.RowKit Go.Joins Go.ChangeMaps

theorem DE.old {W w1 w : World} {F : Nat → Prop} {p bm : Nat} {s : St} {a : Addr} {v : Value} (hb : Below W.heap.size W w1) (h : DE w1 w F p bm s) (hc : W.cell? a = some v) : w.cell? a = some v := keepc' hc (hb.trans (h.bel.mono hb.size))
set_option maxHeartbeats 16000000 in
set_option maxRecDepth 100000 in
theorem lawWakes (a0 : Option Addr) (cap0 : Nat) (l0 : List (Int × Int)) (a1 : Option Addr) (cap1 : Nat) (l1 : List (Int × Int)) (a2 : Option Addr) (cap2 : Nat) (ks : List Bool) (W : World)
    (hin0 : Lst encP 2 W a0 l0) (hb0 : ByP l0) (hin1 : Lst encP 2 W a1 l1) (hb1 : ByP l1) (hink : Lst encK 1 W a2 ks) :
    Calls Try.prog 4 #[.slice a0 l0.length cap0, .slice a1 l1.length cap1, .slice a2 ks.length cap2] W (RetB true W) := by
  have H0 := Lib.hid hin0
  have B0 := Lib.hid hb0
  have H1 := Lib.hid hin1
  have B1 := Lib.hid hb1
  have HK := Lib.hid hink
  clear hin0 hb0 hin1 hb1 hink
  generalize hla : l0.length = n0 at *
  have HN0 := Lib.hid hla
  generalize hlb : l1.length = n1 at *
  have HN1 := Lib.hid hlb
  generalize hlc : ks.length = n2 at *
  have HN2 := Lib.hid hlc
  clear hla hlb hlc
  have hmk := fun W' => make20 W'
  go_enter Try.func4, Try.ntmps4
  go_upto_region 6 with (first
    | (go_at_call 16; refine (works_any _).mono ?_; rintro e w1 ⟨rfl, hb⟩; have B := Lib.hid hb; clear hb)
    | (go_at_call 9; refine (d_new 20 20 (by omega) (by omega) (by omega) (by omega)).mono ?_; rintro e w2 ⟨rfl, hN⟩; have N := Lib.hid hN; clear hN))
  have Q := Lib.hid (show WantAt (w2.alloc (.cells (strA (fun _ => ByteArray.empty)) 9)) w2.heap.size (fun _ => ByteArray.empty) from heap_alloc_new w2 _)
  have N2 := Lib.hid ((N.out.more (bel1 w2 (.cells (strA (fun _ => ByteArray.empty)) 9))).less (F' := fun k => k = w2.heap.size) (fun k hk => .inr (by subst hk; simp)))
  have hq := Lib.hid N.out.bel.size
  generalize w2.alloc (.cells (strA (fun _ => ByteArray.empty)) 9) = w3 at *
  generalize w2.heap.size = bw at *
  clear hmk N
  generalize hqq : w1.heap.size = q at *
  have HQ := Lib.hid hqq
  clear hqq
  have hT0 := Lib.hid (show Tw 0 (newS 20 20) from ⟨rfl, rfl, rfl, rfl, rfl⟩)
  have hnw := Lib.hid (show ∀ i, nowT (newS 20 20) i = wZ from fun i => rfl)
  generalize newS 20 20 = s0 at *
  go_loopg [9] 20 (fun gk v9 wr => ∃ i : Nat, i + gk = 20 ∧ v9 = .int .i64 (i : Int) ∧ DE w1 wr (fun k => k = bw) (q + 1) q s0 ∧ WantAt wr bw (fun j => if j < i then wZ else ByteArray.empty))
  case atStart => exact ⟨0, by omega, rfl, N2.out, Q.out.congr (fun i _ => by simp)⟩
  case round =>
    obtain ⟨i, hik, rfl, hD, hQ⟩ := hrel
    clear N2 Q
    have N := Lib.hid hD
    have Q := Lib.hid hQ
    clear hD hQ
    by_cases hlt : i < 20
    · have hli : (i : Int) < 20 := by omega
      have HI := Lib.hid hlt
      go_wp2_with (go_at_call 12; refine (d_dZ _).mono ?_; rintro e w9 ⟨rfl, hb⟩; have N' := Lib.hid (N.out.below hb); have Q' := Lib.hid (Q.out.below hb); have q1 := (Q'.out.cell HI.out).1; have q1f := (Q'.out.cell HI.out).2; clear N Q hb; have N := N'; have Q := Q'; clear N' Q')
      go_roundg (gk - 1)
      case measure => omega
      case rel =>
        refine ⟨i + 1, by omega, by simp, N.out.mod (Mod.cellOf bw i _) (fun k _ hk => hk) (fun k hk => by subst hk; rw [HQ.out]; exact hq.out), Q.out.set HI.out wZ (fun j _ => ?_)⟩
        by_cases e : j = i
        · subst e; simp
        · rw [if_neg e]; by_cases c : j < i
          · rw [if_pos c, if_pos (by omega)]
          · rw [if_neg c, if_neg (by omega)]
    · obtain rfl : i = 20 := by omega
      have Q2 := Lib.hid (Q.out.congr (g' := nowT s0) (fun i hi => by rw [if_pos hi, hnw.out]))
      clear hlt Q hnw
      go_upto_region 10 with fail
      go_loopg [10, 11] 50 (fun gk v10 v11 wr => ∃ i : Nat, i + gk = 50 ∧ i ≤ n0 ∧ v10 = .int .i64 (i : Int) ∧ ∃ s, DE w1 wr (fun k => k = bw) (q + 1) q s ∧ WantAt wr bw (nowT s) ∧ Tw i s)
      case atStart => exact ⟨0, by omega, by omega, rfl, s0, N.out, Q2.out, hT0.out⟩
      case round =>
        clear N Q2 hT0 hik
        obtain ⟨i, hik, hi0, rfl, s, hD, hQ, hT⟩ := hrel
        have N := Lib.hid hD
        have Q := Lib.hid hQ
        have T := Lib.hid hT
        clear hD hQ hT
        by_cases hgo : i < n0 ∧ i < 50
        · obtain ⟨hlt, h50⟩ := hgo
          have hli : (i : Int) < (n0 : Int) := by omega
          have h50i : (i : Int) < 50 := by omega
          have hil : i < l0.length := by rw [HN0.out]; exact hlt
          obtain ⟨b, off, hab, hc⟩ := H0.out i hil
          have tc0 := hc 0 _ rfl
          have tc1 := hc 1 _ rfl
          rw [Nat.add_zero] at tc0
          obtain ⟨z0, z1, y0, y1⟩ := B0.out _ (getD_mem hil)
          generalize l0.getD i default = zy at *
          obtain ⟨z, y⟩ := zy
          simp only at tc0 tc1 z0 z1 y0 y1
          have TC := Lib.hid tc1
          have c0 := DE.old B.out N.out tc0
          have c1 := DE.old B.out N.out tc1
          clear tc0 tc1 hil
          have hl0 : 0 ≤ y % 200 := by omega
          have hl1 : y % 200 ≤ 255 := by omega
          have HS := Lib.hid (data_len (c := y % 200) (by omega))
          have hxx : ∃ x : Nat, z % 20 = (x : Int) ∧ x < 20 := ⟨(z % 20).toNat, by omega, by omega⟩
          subst hab
          clear hc
          go_upto_region 13 with fail
          obtain ⟨x, hx, hx20⟩ := hxx
          rw [hx]
          have HX := Lib.hid hx20
          have E := tw_write (x := (x : Int)) (b := dataB (y % 200)) N.out.good T.out (by omega) (by omega) HS.out
          have E1 := Lib.hid E.1
          have T2 := Lib.hid E.2
          have hxi : (x : Int) < 20 := by omega
          clear E hx z0 z1 c0
          go_wp2_with (first
            | (go_at_call 12; refine (data_any (y % 200) _ hl0 hl1).mono ?_; rintro e w9 ⟨rfl, hb⟩; have N' := Lib.hid (N.out.below hb); have Q' := Lib.hid (Q.out.below hb); have c1 := DE.old B.out N'.out TC.out; have q1 := (Q'.out.cell HX.out).1; have q1f := (Q'.out.cell HX.out).2; clear N Q hb; have N := N'; have Q := Q'; clear N' Q')
            | (go_at_call 11; refine (d_write N.out (by have := T.out.more; omega) E1.out).mono ?_; rintro e w5 ⟨rfl, hs⟩; have Q' := Lib.hid (hs.want rfl Q.out); have c1 := DE.old B.out hs.1 TC.out; have N' := Lib.hid hs.1; clear N Q hs; have N := N'; have Q := Q'; clear N' Q'))
          go_roundg (gk - 1)
          case measure => omega
          case rel => exact ⟨i + 1, by omega, by omega, by simp, _, (N.out.mod (Mod.cellOf bw x _) (fun k _ hk => hk) (fun k hk => by subst hk; rw [HQ.out]; exact hq.out)), Q.out.set HX.out _ (nowT_put s x _), T2.out⟩
        · have TT := Lib.hid (tw_flush T.out)
          have QQ := Lib.hid (kepT_flush s ks)
          have hgo2 : n0 ≤ i ∨ 50 ≤ i := by omega
          by_cases hge : n0 ≤ i
          · have hgei : (n0 : Int) ≤ (i : Int) := by omega
            clear hgo hgo2
            have h := (0 : Nat)
            clear h
            go_upto_region 19 with (go_at_call 17; refine (d_flush N.out TT.out.1).mono ?_; rintro e w5 ⟨rfl, hs⟩; have Q' := Lib.hid ((hs.want rfl Q.out).congr QQ.out); have N' := Lib.hid hs.1; clear N Q hs; have N := N'; have Q := Q'; clear N' Q')
            have T1 := Lib.hid TT.out.2
            clear T TT QQ hik hi0 hge
            generalize ({ s with base := s.now, more := [] } : St) = s1 at *
            go_loopg [12, 13, 14, 15] 50 (fun gk v12 v13 v14 v15 wr => ∃ j : Nat, j + gk = 50 ∧ j ≤ n1 ∧ v12 = .int .i64 (j : Int) ∧ ∃ s, DE w1 wr (fun k => k = bw) (q + 1) q s ∧ WantAt wr bw (kepT s ks) ∧ Tw j s)
            case atStart => exact ⟨0, by omega, by omega, rfl, s1, N.out, Q.out, T1.out⟩
            case round =>
              clear N Q T1
              obtain ⟨j, hjk, hj0, rfl, s, hD, hQ, hT⟩ := hrel
              have N := Lib.hid hD
              have Q := Lib.hid hQ
              have T := Lib.hid hT
              clear hD hQ hT
              by_cases hgo : j < n1 ∧ j < 50
              · obtain ⟨hlt, h50⟩ := hgo
                have hli : (j : Int) < (n1 : Int) := by omega
                have h50i : (j : Int) < 50 := by omega
                have hil : j < l1.length := by rw [HN1.out]; exact hlt
                obtain ⟨b, off, hab, hc⟩ := H1.out j hil
                have tc0 := hc 0 _ rfl
                have tc1 := hc 1 _ rfl
                rw [Nat.add_zero] at tc0
                obtain ⟨z0, z1, y0, y1⟩ := B1.out _ (getD_mem hil)
                generalize l1.getD j default = zy at *
                obtain ⟨z, y⟩ := zy
                simp only at tc0 tc1 z0 z1 y0 y1
                have TC := Lib.hid tc1
                have c0 := DE.old B.out N.out tc0
                have c1 := DE.old B.out N.out tc1
                clear tc0 tc1 hil
                have hl0 : 0 ≤ y % 200 := by omega
                have hl1 : y % 200 ≤ 255 := by omega
                have HS := Lib.hid (data_len (c := y % 200) (by omega))
                have hxx : ∃ x : Nat, z % 20 = (x : Int) ∧ x < 20 := ⟨(z % 20).toNat, by omega, by omega⟩
                subst hab
                clear hc
                go_upto_region 22 with fail
                obtain ⟨x, hx, hx20⟩ := hxx
                rw [hx]
                have HX := Lib.hid hx20
                have E := tw_write (x := (x : Int)) (b := dataB (y % 200)) N.out.good T.out (by omega) (by omega) HS.out
                have E1 := Lib.hid E.1
                have T2 := Lib.hid E.2
                have R := tw_read (x := (x : Int)) E.2 (by omega) (by omega)
                rw [put_now, upd_same] at R
                have R1 := Lib.hid (show readR (putS s x (dataB (y % 200))) x = (dataB (y % 200), 0) from R)
                have hxi : (x : Int) < 20 := by omega
                clear E R hx z0 z1 c0
                by_cases hk2 : j < n2
                · have hk2i : (j : Int) < (n2 : Int) := by omega
                  obtain ⟨b2, off2, hab2, hc2⟩ := HK.out j (by rw [HN2.out]; exact hk2)
                  subst hab2
                  have tk := hc2 0 _ rfl
                  rw [Nat.add_zero, Nat.mul_one] at tk
                  clear hc2
                  cases hkb : ks.getD j default with
                  | true =>
                    have KB := Lib.hid hkb
                    rw [hkb] at tk
                    have CK := Lib.hid tk
                    have ck := DE.old B.out N.out tk
                    clear tk hkb
                    go_wp2_with (first
                      | (go_at_call 12; refine (data_any (y % 200) _ hl0 hl1).mono ?_; rintro e w9 ⟨rfl, hb⟩; have N' := Lib.hid (N.out.below hb); have Q' := Lib.hid (Q.out.below hb); have c1 := DE.old B.out N'.out TC.out; have q1 := (Q'.out.cell HX.out).1; have q1f := (Q'.out.cell HX.out).2; have ck := DE.old B.out N'.out CK.out; clear N Q hb; have N := N'; have Q := Q'; clear N' Q')
                      | (go_at_call 11; refine (d_write N.out (by have := T.out.more; omega) E1.out).mono ?_; rintro e w5 ⟨rfl, hs⟩; have Q' := Lib.hid (hs.want rfl Q.out); have c1 := DE.old B.out hs.1 TC.out; have N' := Lib.hid hs.1; have ck := DE.old B.out N'.out CK.out; clear N Q hs; have N := N'; have Q := Q'; clear N' Q')
                      | (go_at_call 18; refine (d_read N.out R1.out).mono ?_; rintro e w9 ⟨rfl, hb⟩; have N' := Lib.hid (N.out.below hb); have Q' := Lib.hid (Q.out.below hb); have c1 := DE.old B.out N'.out TC.out; have ck := DE.old B.out N'.out CK.out; clear N Q hb; have N := N'; have Q := Q'; clear N' Q'))
                    go_roundg (gk - 1)
                    case measure => omega
                    case rel => exact ⟨j + 1, by omega, by omega, by simp, _, (N.out.mod (Mod.cellOf bw x _) (fun k _ hk => hk) (fun k hk => by subst hk; rw [HQ.out]; exact hq.out)), Q.out.set HX.out _ (kepT_put_yes s x _ ks T.out.more (by rw [HN2.out]; exact hk2) KB.out), T2.out⟩
                  | false =>
                    have KB := Lib.hid (show ¬ (j < ks.length ∧ ks.getD j default = true) from fun c => by rw [hkb] at c; exact absurd c.2 (by decide))
                    rw [hkb] at tk
                    have CK := Lib.hid tk
                    have ck := DE.old B.out N.out tk
                    clear tk hkb
                    go_wp2_with (first
                      | (go_at_call 12; refine (data_any (y % 200) _ hl0 hl1).mono ?_; rintro e w9 ⟨rfl, hb⟩; have N' := Lib.hid (N.out.below hb); have Q' := Lib.hid (Q.out.below hb); have c1 := DE.old B.out N'.out TC.out; have q1 := (Q'.out.cell HX.out).1; have q1f := (Q'.out.cell HX.out).2; have ck := DE.old B.out N'.out CK.out; clear N Q hb; have N := N'; have Q := Q'; clear N' Q')
                      | (go_at_call 11; refine (d_write N.out (by have := T.out.more; omega) E1.out).mono ?_; rintro e w5 ⟨rfl, hs⟩; have Q' := Lib.hid (hs.want rfl Q.out); have c1 := DE.old B.out hs.1 TC.out; have N' := Lib.hid hs.1; have ck := DE.old B.out N'.out CK.out; clear N Q hs; have N := N'; have Q := Q'; clear N' Q')
                      | (go_at_call 18; refine (d_read N.out R1.out).mono ?_; rintro e w9 ⟨rfl, hb⟩; have N' := Lib.hid (N.out.below hb); have Q' := Lib.hid (Q.out.below hb); have c1 := DE.old B.out N'.out TC.out; have ck := DE.old B.out N'.out CK.out; clear N Q hb; have N := N'; have Q := Q'; clear N' Q'))
                    go_roundg (gk - 1)
                    case measure => omega
                    case rel => exact ⟨j + 1, by omega, by omega, by simp, _, N.out, Q.out.congr (kepT_put_no s x _ ks T.out.more KB.out), T2.out⟩
                · have hk2i : (n2 : Int) ≤ (j : Int) := by omega
                  have KB := Lib.hid (show ¬ (j < ks.length ∧ ks.getD j default = true) from fun c => hk2 (by rw [← HN2.out]; exact c.1))
                  go_wp2_with (first
                    | (go_at_call 12; refine (data_any (y % 200) _ hl0 hl1).mono ?_; rintro e w9 ⟨rfl, hb⟩; have N' := Lib.hid (N.out.below hb); have Q' := Lib.hid (Q.out.below hb); have c1 := DE.old B.out N'.out TC.out; have q1 := (Q'.out.cell HX.out).1; have q1f := (Q'.out.cell HX.out).2; clear N Q hb; have N := N'; have Q := Q'; clear N' Q')
                    | (go_at_call 11; refine (d_write N.out (by have := T.out.more; omega) E1.out).mono ?_; rintro e w5 ⟨rfl, hs⟩; have Q' := Lib.hid (hs.want rfl Q.out); have c1 := DE.old B.out hs.1 TC.out; have N' := Lib.hid hs.1; clear N Q hs; have N := N'; have Q := Q'; clear N' Q')
                    | (go_at_call 18; refine (d_read N.out R1.out).mono ?_; rintro e w9 ⟨rfl, hb⟩; have N' := Lib.hid (N.out.below hb); have Q' := Lib.hid (Q.out.below hb); have c1 := DE.old B.out N'.out TC.out; clear N Q hb; have N := N'; have Q := Q'; clear N' Q'))
                  go_roundg (gk - 1)
                  case measure => omega
                  case rel => exact ⟨j + 1, by omega, by omega, by simp, _, N.out, Q.out.congr (kepT_put_no s x _ ks T.out.more KB.out), T2.out⟩
              · have TW := Lib.hid (tw_wake T.out ks)
                have QW := Lib.hid (fun i (_ : i < 20) => (nowT_wake T.out ks i))
                have hgo2 : n1 ≤ j ∨ 50 ≤ j := by omega
                by_cases hge : n1 ≤ j
                · have hgei : (n1 : Int) ≤ (j : Int) := by omega
                  clear hgo hgo2
                  go_upto_region 32 with (first
                    | (go_at_call 19; refine (d_off N.out).mono ?_; rintro e w5 ⟨rfl, hs⟩; have Q' := Lib.hid (hs.want rfl Q.out); have N' := Lib.hid hs.1; clear N Q hs; have N := N'; have Q := Q'; clear N' Q')
                    | (go_at_call 20; refine (d_wake (n := n2) N.out (by show s.more.length ≤ _; have := T.out.more; omega) ((HK.out.below (B.out.trans (N.out.bel.mono B.out.size)))) HN2.out rfl).mono ?_; rintro e w6 ⟨rfl, hs⟩; have Q' := Lib.hid ((hs.want rfl Q.out).congr QW.out); have N' := Lib.hid hs.1; clear N Q hs; have N := N'; have Q := Q'; clear N' Q'))
                  have T1 := Lib.hid TW.out.1
                  clear T TW QW hjk hj0 hge
                  generalize wakeS (offS s) ks = s2 at *
                  go_loopg [16, 17, 18] 20 (fun gk v16 v17 v18 wr => ∃ k : Nat, k + gk = 20 ∧ v16 = .int .i64 (k : Int) ∧ DE w1 wr (fun k => k = bw) (q + 1) q s2 ∧ WantAt wr bw (nowT s2))
                  case atStart => exact ⟨0, by omega, rfl, N.out, Q.out⟩
                  case round =>
                    clear N Q
                    obtain ⟨k, hkk, rfl, hD, hQ⟩ := hrel
                    have N := Lib.hid hD
                    have Q := Lib.hid hQ
                    clear hD hQ
                    by_cases hlt : k < 20
                    · have hlti : (k : Int) < 20 := by omega
                      have R1 := Lib.hid (show readR s2 k = (nowT s2 k, 0) from tw_read T1.out (by omega) hlti)
                      have HI := Lib.hid hlt
                      go_wp2_with (go_at_call 18; refine (d_read N.out R1.out).mono ?_; rintro e w9 ⟨rfl, hb⟩; have N' := Lib.hid (N.out.below hb); have Q' := Lib.hid (Q.out.below hb); have q1 := (Q'.out.cell HI.out).1; clear N Q hb; have N := N'; have Q := Q'; clear N' Q')
                      go_roundg (gk - 1)
                      case measure => omega
                      case rel => exact ⟨k + 1, by omega, by simp, N.out, Q.out⟩
                    · have hge : (20 : Int) ≤ (k : Int) := by omega
                      clear hlt
                      go_wp2_with (go_at_call 21; refine (d_onF N.out T1.out.off).mono ?_; rintro e w9 ⟨rfl, rfl⟩)
                      go_ret
                      exact retB rfl (B.out.trans (N.out.bel.mono B.out.size))
                · have h50 : (50 : Int) ≤ (j : Int) := by omega
                  have hli : (j : Int) < (n1 : Int) := by omega
                  clear hgo hgo2
                  go_upto_region 32 with (first
                    | (go_at_call 19; refine (d_off N.out).mono ?_; rintro e w5 ⟨rfl, hs⟩; have Q' := Lib.hid (hs.want rfl Q.out); have N' := Lib.hid hs.1; clear N Q hs; have N := N'; have Q := Q'; clear N' Q')
                    | (go_at_call 20; refine (d_wake (n := n2) N.out (by show s.more.length ≤ _; have := T.out.more; omega) ((HK.out.below (B.out.trans (N.out.bel.mono B.out.size)))) HN2.out rfl).mono ?_; rintro e w6 ⟨rfl, hs⟩; have Q' := Lib.hid ((hs.want rfl Q.out).congr QW.out); have N' := Lib.hid hs.1; clear N Q hs; have N := N'; have Q := Q'; clear N' Q'))
                  have T1 := Lib.hid TW.out.1
                  clear T TW QW hjk hj0 hge
                  generalize wakeS (offS s) ks = s2 at *
                  go_loopg [16, 17, 18] 20 (fun gk v16 v17 v18 wr => ∃ k : Nat, k + gk = 20 ∧ v16 = .int .i64 (k : Int) ∧ DE w1 wr (fun k => k = bw) (q + 1) q s2 ∧ WantAt wr bw (nowT s2))
                  case atStart => exact ⟨0, by omega, rfl, N.out, Q.out⟩
                  case round =>
                    clear N Q
                    obtain ⟨k, hkk, rfl, hD, hQ⟩ := hrel
                    have N := Lib.hid hD
                    have Q := Lib.hid hQ
                    clear hD hQ
                    by_cases hlt : k < 20
                    · have hlti : (k : Int) < 20 := by omega
                      have R1 := Lib.hid (show readR s2 k = (nowT s2 k, 0) from tw_read T1.out (by omega) hlti)
                      have HI := Lib.hid hlt
                      go_wp2_with (go_at_call 18; refine (d_read N.out R1.out).mono ?_; rintro e w9 ⟨rfl, hb⟩; have N' := Lib.hid (N.out.below hb); have Q' := Lib.hid (Q.out.below hb); have q1 := (Q'.out.cell HI.out).1; clear N Q hb; have N := N'; have Q := Q'; clear N' Q')
                      go_roundg (gk - 1)
                      case measure => omega
                      case rel => exact ⟨k + 1, by omega, by simp, N.out, Q.out⟩
                    · have hge : (20 : Int) ≤ (k : Int) := by omega
                      clear hlt
                      go_wp2_with (go_at_call 21; refine (d_onF N.out T1.out.off).mono ?_; rintro e w9 ⟨rfl, rfl⟩)
                      go_ret
                      exact retB rfl (B.out.trans (N.out.bel.mono B.out.size))
          · have h50 : (50 : Int) ≤ (i : Int) := by omega
            have hli : (i : Int) < (n0 : Int) := by omega
            clear hgo hgo2
            have h := (0 : Nat)
            clear h
            go_upto_region 19 with (go_at_call 17; refine (d_flush N.out TT.out.1).mono ?_; rintro e w5 ⟨rfl, hs⟩; have Q' := Lib.hid ((hs.want rfl Q.out).congr QQ.out); have N' := Lib.hid hs.1; clear N Q hs; have N := N'; have Q := Q'; clear N' Q')
            have T1 := Lib.hid TT.out.2
            clear T TT QQ hik hi0 hge
            generalize ({ s with base := s.now, more := [] } : St) = s1 at *
            go_loopg [12, 13, 14, 15] 50 (fun gk v12 v13 v14 v15 wr => ∃ j : Nat, j + gk = 50 ∧ j ≤ n1 ∧ v12 = .int .i64 (j : Int) ∧ ∃ s, DE w1 wr (fun k => k = bw) (q + 1) q s ∧ WantAt wr bw (kepT s ks) ∧ Tw j s)
            case atStart => exact ⟨0, by omega, by omega, rfl, s1, N.out, Q.out, T1.out⟩
            case round =>
              clear N Q T1
              obtain ⟨j, hjk, hj0, rfl, s, hD, hQ, hT⟩ := hrel
              have N := Lib.hid hD
              have Q := Lib.hid hQ
              have T := Lib.hid hT
              clear hD hQ hT
              by_cases hgo : j < n1 ∧ j < 50
              · obtain ⟨hlt, h50⟩ := hgo
                have hli : (j : Int) < (n1 : Int) := by omega
                have h50i : (j : Int) < 50 := by omega
                have hil : j < l1.length := by rw [HN1.out]; exact hlt
                obtain ⟨b, off, hab, hc⟩ := H1.out j hil
                have tc0 := hc 0 _ rfl
                have tc1 := hc 1 _ rfl
                rw [Nat.add_zero] at tc0
                obtain ⟨z0, z1, y0, y1⟩ := B1.out _ (getD_mem hil)
                generalize l1.getD j default = zy at *
                obtain ⟨z, y⟩ := zy
                simp only at tc0 tc1 z0 z1 y0 y1
                have TC := Lib.hid tc1
                have c0 := DE.old B.out N.out tc0
                have c1 := DE.old B.out N.out tc1
                clear tc0 tc1 hil
                have hl0 : 0 ≤ y % 200 := by omega
                have hl1 : y % 200 ≤ 255 := by omega
                have HS := Lib.hid (data_len (c := y % 200) (by omega))
                have hxx : ∃ x : Nat, z % 20 = (x : Int) ∧ x < 20 := ⟨(z % 20).toNat, by omega, by omega⟩
                subst hab
                clear hc
                go_upto_region 22 with fail
                obtain ⟨x, hx, hx20⟩ := hxx
                rw [hx]
                have HX := Lib.hid hx20
                have E := tw_write (x := (x : Int)) (b := dataB (y % 200)) N.out.good T.out (by omega) (by omega) HS.out
                have E1 := Lib.hid E.1
                have T2 := Lib.hid E.2
                have R := tw_read (x := (x : Int)) E.2 (by omega) (by omega)
                rw [put_now, upd_same] at R
                have R1 := Lib.hid (show readR (putS s x (dataB (y % 200))) x = (dataB (y % 200), 0) from R)
                have hxi : (x : Int) < 20 := by omega
                clear E R hx z0 z1 c0
                by_cases hk2 : j < n2
                · have hk2i : (j : Int) < (n2 : Int) := by omega
                  obtain ⟨b2, off2, hab2, hc2⟩ := HK.out j (by rw [HN2.out]; exact hk2)
                  subst hab2
                  have tk := hc2 0 _ rfl
                  rw [Nat.add_zero, Nat.mul_one] at tk
                  clear hc2
                  cases hkb : ks.getD j default with
                  | true =>
                    have KB := Lib.hid hkb
                    rw [hkb] at tk
                    have CK := Lib.hid tk
                    have ck := DE.old B.out N.out tk
                    clear tk hkb
                    go_wp2_with (first
                      | (go_at_call 12; refine (data_any (y % 200) _ hl0 hl1).mono ?_; rintro e w9 ⟨rfl, hb⟩; have N' := Lib.hid (N.out.below hb); have Q' := Lib.hid (Q.out.below hb); have c1 := DE.old B.out N'.out TC.out; have q1 := (Q'.out.cell HX.out).1; have q1f := (Q'.out.cell HX.out).2; have ck := DE.old B.out N'.out CK.out; clear N Q hb; have N := N'; have Q := Q'; clear N' Q')
                      | (go_at_call 11; refine (d_write N.out (by have := T.out.more; omega) E1.out).mono ?_; rintro e w5 ⟨rfl, hs⟩; have Q' := Lib.hid (hs.want rfl Q.out); have c1 := DE.old B.out hs.1 TC.out; have N' := Lib.hid hs.1; have ck := DE.old B.out N'.out CK.out; clear N Q hs; have N := N'; have Q := Q'; clear N' Q')
                      | (go_at_call 18; refine (d_read N.out R1.out).mono ?_; rintro e w9 ⟨rfl, hb⟩; have N' := Lib.hid (N.out.below hb); have Q' := Lib.hid (Q.out.below hb); have c1 := DE.old B.out N'.out TC.out; have ck := DE.old B.out N'.out CK.out; clear N Q hb; have N := N'; have Q := Q'; clear N' Q'))
                    go_roundg (gk - 1)
                    case measure => omega
                    case rel => exact ⟨j + 1, by omega, by omega, by simp, _, (N.out.mod (Mod.cellOf bw x _) (fun k _ hk => hk) (fun k hk => by subst hk; rw [HQ.out]; exact hq.out)), Q.out.set HX.out _ (kepT_put_yes s x _ ks T.out.more (by rw [HN2.out]; exact hk2) KB.out), T2.out⟩
                  | false =>
                    have KB := Lib.hid (show ¬ (j < ks.length ∧ ks.getD j default = true) from fun c => by rw [hkb] at c; exact absurd c.2 (by decide))
                    rw [hkb] at tk
                    have CK := Lib.hid tk
                    have ck := DE.old B.out N.out tk
                    clear tk hkb
                    go_wp2_with (first
                      | (go_at_call 12; refine (data_any (y % 200) _ hl0 hl1).mono ?_; rintro e w9 ⟨rfl, hb⟩; have N' := Lib.hid (N.out.below hb); have Q' := Lib.hid (Q.out.below hb); have c1 := DE.old B.out N'.out TC.out; have q1 := (Q'.out.cell HX.out).1; have q1f := (Q'.out.cell HX.out).2; have ck := DE.old B.out N'.out CK.out; clear N Q hb; have N := N'; have Q := Q'; clear N' Q')
                      | (go_at_call 11; refine (d_write N.out (by have := T.out.more; omega) E1.out).mono ?_; rintro e w5 ⟨rfl, hs⟩; have Q' := Lib.hid (hs.want rfl Q.out); have c1 := DE.old B.out hs.1 TC.out; have N' := Lib.hid hs.1; have ck := DE.old B.out N'.out CK.out; clear N Q hs; have N := N'; have Q := Q'; clear N' Q')
                      | (go_at_call 18; refine (d_read N.out R1.out).mono ?_; rintro e w9 ⟨rfl, hb⟩; have N' := Lib.hid (N.out.below hb); have Q' := Lib.hid (Q.out.below hb); have c1 := DE.old B.out N'.out TC.out; have ck := DE.old B.out N'.out CK.out; clear N Q hb; have N := N'; have Q := Q'; clear N' Q'))
                    go_roundg (gk - 1)
                    case measure => omega
                    case rel => exact ⟨j + 1, by omega, by omega, by simp, _, N.out, Q.out.congr (kepT_put_no s x _ ks T.out.more KB.out), T2.out⟩
                · have hk2i : (n2 : Int) ≤ (j : Int) := by omega
                  have KB := Lib.hid (show ¬ (j < ks.length ∧ ks.getD j default = true) from fun c => hk2 (by rw [← HN2.out]; exact c.1))
                  go_wp2_with (first
                    | (go_at_call 12; refine (data_any (y % 200) _ hl0 hl1).mono ?_; rintro e w9 ⟨rfl, hb⟩; have N' := Lib.hid (N.out.below hb); have Q' := Lib.hid (Q.out.below hb); have c1 := DE.old B.out N'.out TC.out; have q1 := (Q'.out.cell HX.out).1; have q1f := (Q'.out.cell HX.out).2; clear N Q hb; have N := N'; have Q := Q'; clear N' Q')
                    | (go_at_call 11; refine (d_write N.out (by have := T.out.more; omega) E1.out).mono ?_; rintro e w5 ⟨rfl, hs⟩; have Q' := Lib.hid (hs.want rfl Q.out); have c1 := DE.old B.out hs.1 TC.out; have N' := Lib.hid hs.1; clear N Q hs; have N := N'; have Q := Q'; clear N' Q')
                    | (go_at_call 18; refine (d_read N.out R1.out).mono ?_; rintro e w9 ⟨rfl, hb⟩; have N' := Lib.hid (N.out.below hb); have Q' := Lib.hid (Q.out.below hb); have c1 := DE.old B.out N'.out TC.out; clear N Q hb; have N := N'; have Q := Q'; clear N' Q'))
                  go_roundg (gk - 1)
                  case measure => omega
                  case rel => exact ⟨j + 1, by omega, by omega, by simp, _, N.out, Q.out.congr (kepT_put_no s x _ ks T.out.more KB.out), T2.out⟩
              · have TW := Lib.hid (tw_wake T.out ks)
                have QW := Lib.hid (fun i (_ : i < 20) => (nowT_wake T.out ks i))
                have hgo2 : n1 ≤ j ∨ 50 ≤ j := by omega
                by_cases hge : n1 ≤ j
                · have hgei : (n1 : Int) ≤ (j : Int) := by omega
                  clear hgo hgo2
                  go_upto_region 32 with (first
                    | (go_at_call 19; refine (d_off N.out).mono ?_; rintro e w5 ⟨rfl, hs⟩; have Q' := Lib.hid (hs.want rfl Q.out); have N' := Lib.hid hs.1; clear N Q hs; have N := N'; have Q := Q'; clear N' Q')
                    | (go_at_call 20; refine (d_wake (n := n2) N.out (by show s.more.length ≤ _; have := T.out.more; omega) ((HK.out.below (B.out.trans (N.out.bel.mono B.out.size)))) HN2.out rfl).mono ?_; rintro e w6 ⟨rfl, hs⟩; have Q' := Lib.hid ((hs.want rfl Q.out).congr QW.out); have N' := Lib.hid hs.1; clear N Q hs; have N := N'; have Q := Q'; clear N' Q'))
                  have T1 := Lib.hid TW.out.1
                  clear T TW QW hjk hj0 hge
                  generalize wakeS (offS s) ks = s2 at *
                  go_loopg [16, 17, 18] 20 (fun gk v16 v17 v18 wr => ∃ k : Nat, k + gk = 20 ∧ v16 = .int .i64 (k : Int) ∧ DE w1 wr (fun k => k = bw) (q + 1) q s2 ∧ WantAt wr bw (nowT s2))
                  case atStart => exact ⟨0, by omega, rfl, N.out, Q.out⟩
                  case round =>
                    clear N Q
                    obtain ⟨k, hkk, rfl, hD, hQ⟩ := hrel
                    have N := Lib.hid hD
                    have Q := Lib.hid hQ
                    clear hD hQ
                    by_cases hlt : k < 20
                    · have hlti : (k : Int) < 20 := by omega
                      have R1 := Lib.hid (show readR s2 k = (nowT s2 k, 0) from tw_read T1.out (by omega) hlti)
                      have HI := Lib.hid hlt
                      go_wp2_with (go_at_call 18; refine (d_read N.out R1.out).mono ?_; rintro e w9 ⟨rfl, hb⟩; have N' := Lib.hid (N.out.below hb); have Q' := Lib.hid (Q.out.below hb); have q1 := (Q'.out.cell HI.out).1; clear N Q hb; have N := N'; have Q := Q'; clear N' Q')
                      go_roundg (gk - 1)
                      case measure => omega
                      case rel => exact ⟨k + 1, by omega, by simp, N.out, Q.out⟩
                    · have hge : (20 : Int) ≤ (k : Int) := by omega
                      clear hlt
                      go_wp2_with (go_at_call 21; refine (d_onF N.out T1.out.off).mono ?_; rintro e w9 ⟨rfl, rfl⟩)
                      go_ret
                      exact retB rfl (B.out.trans (N.out.bel.mono B.out.size))
                · have h50 : (50 : Int) ≤ (j : Int) := by omega
                  have hli : (j : Int) < (n1 : Int) := by omega
                  clear hgo hgo2
                  go_upto_region 32 with (first
                    | (go_at_call 19; refine (d_off N.out).mono ?_; rintro e w5 ⟨rfl, hs⟩; have Q' := Lib.hid (hs.want rfl Q.out); have N' := Lib.hid hs.1; clear N Q hs; have N := N'; have Q := Q'; clear N' Q')
                    | (go_at_call 20; refine (d_wake (n := n2) N.out (by show s.more.length ≤ _; have := T.out.more; omega) ((HK.out.below (B.out.trans (N.out.bel.mono B.out.size)))) HN2.out rfl).mono ?_; rintro e w6 ⟨rfl, hs⟩; have Q' := Lib.hid ((hs.want rfl Q.out).congr QW.out); have N' := Lib.hid hs.1; clear N Q hs; have N := N'; have Q := Q'; clear N' Q'))
                  have T1 := Lib.hid TW.out.1
                  clear T TW QW hjk hj0 hge
                  generalize wakeS (offS s) ks = s2 at *
                  go_loopg [16, 17, 18] 20 (fun gk v16 v17 v18 wr => ∃ k : Nat, k + gk = 20 ∧ v16 = .int .i64 (k : Int) ∧ DE w1 wr (fun k => k = bw) (q + 1) q s2 ∧ WantAt wr bw (nowT s2))
                  case atStart => exact ⟨0, by omega, rfl, N.out, Q.out⟩
                  case round =>
                    clear N Q
                    obtain ⟨k, hkk, rfl, hD, hQ⟩ := hrel
                    have N := Lib.hid hD
                    have Q := Lib.hid hQ
                    clear hD hQ
                    by_cases hlt : k < 20
                    · have hlti : (k : Int) < 20 := by omega
                      have R1 := Lib.hid (show readR s2 k = (nowT s2 k, 0) from tw_read T1.out (by omega) hlti)
                      have HI := Lib.hid hlt
                      go_wp2_with (go_at_call 18; refine (d_read N.out R1.out).mono ?_; rintro e w9 ⟨rfl, hb⟩; have N' := Lib.hid (N.out.below hb); have Q' := Lib.hid (Q.out.below hb); have q1 := (Q'.out.cell HI.out).1; clear N Q hb; have N := N'; have Q := Q'; clear N' Q')
                      go_roundg (gk - 1)
                      case measure => omega
                      case rel => exact ⟨k + 1, by omega, by simp, N.out, Q.out⟩
                    · have hge : (20 : Int) ≤ (k : Int) := by omega
                      clear hlt
                      go_wp2_with (go_at_call 21; refine (d_onF N.out T1.out.off).mono ?_; rintro e w9 ⟨rfl, rfl⟩)
                      go_ret
                      exact retB rfl (B.out.trans (N.out.bel.mono B.out.size))
end Go.Proofs.Ytcgkdomfbkkboaa
