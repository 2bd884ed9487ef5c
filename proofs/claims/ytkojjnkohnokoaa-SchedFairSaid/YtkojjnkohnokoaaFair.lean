/- A link that always waits gets its share. -/
import Derived.Test.YtkojjnkohnokoaaFairP
namespace Go.Proofs.Ytkojjnkohnokoaa
open Go.RowKit Go.Joins

def Row16 (w : World) (a : Option Addr) (xs : List Int) : Prop :=
  ∀ i, i < xs.length → ∃ b off, a = some ⟨b, off, none⟩ ∧ w.cell? ⟨b, off + i, none⟩ = some (.int .u16 (xs.getD i 0)) ∧ 0 ≤ xs.getD i 0 ∧ xs.getD i 0 ≤ 65535
theorem keepc {w w' : World} {p : Addr} {v : Value} (h : w.cell? p = some v) (hb : Below w.heap.size w w') : w'.cell? p = some v := (hb.cell (World.block_lt_of_cell? _ _ h)).trans h
set_option maxHeartbeats 8000000 in
set_option maxRecDepth 100000 in
theorem lawFair (a : Option Addr) (cap : Nat) (ss : List Int) (r o : Int) (W : World) (hin : Row16 W a ss) (hle : ss.length ≤ cap) (hcm : cap ≤ maxLen) (hr0 : 0 ≤ r) (hr1 : r ≤ 255) (ho0 : 0 ≤ o) (ho1 : o ≤ 255) :
    Calls Try.prog 5 #[.slice a ss.length cap, .int .u8 r, .int .u8 o] W (RetB true W) := by
  unfold maxLen at hcm
  have HIn := Lib.hid hin
  generalize hn : ss.length = n at *
  have hN := Lib.hid hn
  clear hin hn
  by_cases hn0 : n = 0
  · subst hn0
    go_enter Try.func5, Try.ntmps5
    go_wp2_with (first
      | (go_at_call 7; refine (o_new W).mono ?_; rintro e w1 ⟨p, rfl, -, hb1⟩)
      | (go_at_call 18; refine (works_any _).mono ?_; rintro e w2 ⟨rfl, hb⟩))
    go_ret
    exact retB rfl (grew_trans hb1 hb)
  · have hnb : ((n : Int) == 0) = false := beq_eq_false_iff_ne.2 (by omega)
    obtain ⟨m, hm⟩ : ∃ m, m = min n 12 := ⟨_, rfl⟩
    have hm1 : 1 ≤ m := by omega
    have hmn : m ≤ n := by omega
    have hm12 : m ≤ 12 := by omega
    have HM := Lib.hid hm
    clear hn0
    go_enter Try.func5, Try.ntmps5
    go_upto_region 4 with (go_at_call 7; refine (o_new W).mono ?_; rintro e w1 ⟨p, rfl, h1, hb1⟩)
    have N0 := Lib.hid h1
    clear h1 hb1 hnb
    go_cut [0] from 29 to 33 (fun v0 wx => v0 = .slice a m cap ∧ wx = w1)
    case first =>
      by_cases h12 : n < 12
      · have hx : (n : Int) < 12 := by omega
        obtain rfl : m = n := by omega
        clear hm
        go_wp2
        go_meet
        exact ⟨rfl, rfl⟩
      · have hx : (12 : Int) ≤ (n : Int) := by omega
        by_cases h13 : n = 12
        · have hx2 : (n : Int) = 12 := by omega
          obtain rfl : m = 12 := by omega
          clear hm
          go_wp2
          go_meet
          exact ⟨rfl, rfl⟩
        · have hx2 : (12 : Int) < (n : Int) := by omega
          obtain rfl : m = 12 := by omega
          clear hm
          go_wp2
          go_meet
          exact ⟨rfl, rfl⟩
    case rest =>
      obtain ⟨rfl, rfl⟩ := hcut
      clear hm hle
      go_wp2
      obtain ⟨R, hR, hR60⟩ : ∃ R : Nat, r % 60 = (R : Int) ∧ R ≤ 59 := ⟨(r % 60).toNat, by omega, by omega⟩
      rw [hR]
      clear hR hr0 hr1
      go_loopg [8, 9, 10, 12, 13, 14, 15] R (fun gk v8 v9 v10 v12 v13 v14 v15 wr => ∃ (i nx : Nat) (gone lg : Int) (s : St), i + gk = R ∧ v12 = .int .i64 (i : Int) ∧ v8 = .int .i64 (nx : Int) ∧ v9 = .int .i64 gone ∧ v10 = .int .i64 lg ∧
        One 56 W wr (fun _ => False) p s ∧ Good s ∧ nx ≤ 4 * i ∧ gone + s.c 2 = 80 * (i : Int) ∧ 0 ≤ lg ∧ lg ≤ 300 ∧ 0 ≤ gone ∧ ∀ b ∈ s.q 2, (b.size : Int) ≤ lg)
      case atStart => exact ⟨0, 0, 0, 0, new0, by omega, rfl, rfl, rfl, rfl, N0.out, good_new, by omega, by simp [new0], by omega, by omega, by omega, by simp [new0]⟩
      case round =>
        obtain ⟨i, nx, gone, lg, s, hik, rfl, rfl, rfl, rfl, hO, hg, hnx, hgc, hlg0, hlg3, hgo, hlq⟩ := hrel
        have HO := Lib.hid hO
        have HG := Lib.hid hg
        have HLQ := Lib.hid hlq
        have HGC := Lib.hid hgc
        clear hO hg hlq N0
        by_cases hlt : i < R
        · have hli : (i : Int) < (R : Int) := by omega
          go_wp2
          go_loopg [8, 10, 13] (5 - (s.q 2).length) (fun gj v8 v10 v13 wr2 => ∃ (nx2 : Nat) (lg2 : Int) (s2 : St), v8 = .int .i64 (nx2 : Int) ∧ v10 = .int .i64 lg2 ∧ One 56 W wr2 (fun _ => False) p s2 ∧ Good s2 ∧ s2.c = s.c ∧
            (s2.q 2).length + gj = 5 ∧ nx2 ≤ 4 * i + (s2.q 2).length ∧ 0 ≤ lg2 ∧ lg2 ≤ 300 ∧ ∀ b ∈ s2.q 2, (b.size : Int) ≤ lg2)
          case atStart => exact ⟨nx, lg, s, rfl, rfl, HO.out, HG.out, rfl, by have := (HG.out 2 (by omega)).1.1; omega, by omega, hlg0, hlg3, HLQ.out⟩
          case round =>
            obtain ⟨nx2, lg2, s2, rfl, rfl, hO2, hg2, hc2, hlen2, hnx2, hl0, hl3, hlq2⟩ := hrel
            obtain ⟨j, hj⟩ : ∃ j, j = nx2 % m := ⟨_, rfl⟩
            have hjm : j < m := by rw [hj]; exact Nat.mod_lt _ (by omega)
            have hjI : ((nx2 : Int) % (m : Int)) = (j : Int) := by rw [hj]; exact (Int.natCast_emod _ _).symm
            have hjT : (Int.tmod (nx2 : Int) (m : Int)) = (j : Int) := by rw [hj]; rfl
            have hm0 : ¬ m = 0 := by omega
            have hrem : ∀ V, (Op.intDiv .rem .i64 (nx2 : Int) (m : Int)).run Try.prog V = .ok (.int .i64 (j : Int)) V := fun V => by
              rw [Op.intDiv, if_neg (by omega), hjT]; rfl
            have hm0i : (1 : Int) ≤ (m : Int) := by omega
            have hjl : (j : Int) < (m : Int) := by omega
            have hjb : ¬ m ≤ j := by omega
            obtain ⟨b, off, rfl, hc', hx0, hx1⟩ := HIn.out j (by have := hN.out; omega)
            have hc := keepc hc' hO2.bel
            generalize ss.getD j 0 = x at *
            have HNX := Lib.hid hnx2
            have hnx245 : (nx2 : Int) ≤ 245 := by have := (hg2 2 (by omega)).1.1; omega
            clear hj hjT
            obtain ⟨X, hX⟩ : ∃ X, X = textB (1 + x % 300) nx2 := ⟨_, rfl⟩
            have hXs : X.size = 1 + x % 300 := by rw [hX, textB_size]; unfold clN; omega
            have hXi : (X.size : Int) = 1 + x % 300 := hXs
            have hz0 : 0 ≤ x % 300 := by omega
            have hz1 : x % 300 ≤ 299 := by omega
            have HT := Lib.hid (fun V => hX ▸ text_any (1 + x % 300) nx2 V (by omega) (by omega))
            have HX := Lib.hid hXi
            have HO2 := Lib.hid hO2
            have HG2 := Lib.hid hg2
            have HLQ2 := Lib.hid hlq2
            have HC2 := Lib.hid hc2
            have T1 := trivial
            by_cases hL : (s2.q 2).length < 4
            · obtain ⟨f1, f2, f3, f4⟩ := fair_put (b := X) (lg := lg2) (by omega) (by omega) hL hlq2
              have hg3 := Lib.hid (good_put hg2 2 X)
              have HP := Lib.hid (fun (V : World) (h : One 56 W V (fun _ => False) p s2) => o_put (lk := 2) (b := X) h)
              have F2 := Lib.hid f2
              have F3 := Lib.hid f3
              have F4 := Lib.hid f4
              rw [f1] at HP
              have HL4 := Lib.hid hlen2
              have HL5 := Lib.hid hL
              clear hX hXs hXi hO2 hg2 hlq2 hc2 f1 f2 f3 f4 hlen2 hL HO HG HLQ
              by_cases hmx : lg2 < 1 + x % 300
              · have hmx2 : lg2 ≤ 1 + x % 300 := by omega
                go_wp2_with (first
                  | (have z := T1; go_at_call 12; refine (HT.out _).mono ?_; rintro e w3 ⟨rfl, hb⟩; have N1 := Lib.hid (HO2.out.below hb); clear hb T1 z)
                  | (go_at_call 11; refine (HP.out _ N1.out).mono ?_; rintro e w4 ⟨rfl, hO4, -⟩; have N2 := Lib.hid hO4; clear hO4 N1))
                go_roundg (gk - 1)
                case measure => have := HL4.out; have := HL5.out; omega
                case rel => exact ⟨nx2 + 1, 1 + x % 300, putS s2 2 X, by simp, rfl, N2.out, hg3.out, by rw [F2.out, HC2.out], by have := HL4.out; have := HL5.out; have := F3.out; omega, by have := F3.out; have := HNX.out; omega, by omega, by omega, fun b hb => by have := F4.out b hb; have := HX.out; omega⟩
              · have hmx2 : 1 + x % 300 ≤ lg2 := by omega
                go_wp2_with (first
                  | (have z := T1; go_at_call 12; refine (HT.out _).mono ?_; rintro e w3 ⟨rfl, hb⟩; have N1 := Lib.hid (HO2.out.below hb); clear hb T1 z)
                  | (go_at_call 11; refine (HP.out _ N1.out).mono ?_; rintro e w4 ⟨rfl, hO4, -⟩; have N2 := Lib.hid hO4; clear hO4 N1))
                go_roundg (gk - 1)
                case measure => have := HL4.out; have := HL5.out; omega
                case rel => exact ⟨nx2 + 1, lg2, putS s2 2 X, by simp, rfl, N2.out, hg3.out, by rw [F2.out, HC2.out], by have := HL4.out; have := HL5.out; have := F3.out; omega, by have := F3.out; have := HNX.out; omega, by omega, by omega, fun b hb => by have := F4.out b hb; have := HX.out; omega⟩
            · have hL4 : (s2.q 2).length = 4 := by have := (hg2 2 (by omega)).1.1; omega
              obtain ⟨f1, f2⟩ := fair_full (s := s2) (b := X) (by omega) (by omega) (by omega)
              have HP := Lib.hid (fun (V : World) (h : One 56 W V (fun _ => False) p s2) => o_put (lk := 2) (b := X) h)
              rw [f1, f2] at HP
              have hk0 : 0 ≤ o % 2 := by omega
              have hk1 : o % 2 < 2 := by omega
              obtain ⟨Y, hY⟩ : ∃ Y, Y = textB (1 + o) i := ⟨_, rfl⟩
              have HT2 := Lib.hid (fun V => hY ▸ text_any (1 + o) i V (by omega) (by omega))
              have HP2 := Lib.hid (fun (V : World) (h : One 56 W V (fun _ => False) p s2) => o_put (lk := o % 2) (b := Y) h)
              have hpo := put_other (s := s2) (b := Y) hk1
              have hg3 := good_put hg2 (o % 2) Y
              obtain ⟨s3, hs3⟩ : ∃ s3, s3 = putS s2 (o % 2) Y := ⟨_, rfl⟩
              obtain ⟨en, hen⟩ : ∃ en, en = putE s2 (o % 2) Y := ⟨_, rfl⟩
              rw [← hs3, ← hen] at HP2
              rw [← hs3] at hpo hg3
              obtain ⟨k1, k2⟩ := hpo
              have hne3 : s3.q 2 ≠ [] := by rw [k2]; intro e; rw [e] at hL4; simp at hL4
              have hgub : gone ≤ 80 * (i : Int) := by have := HGC.out; have := (hg2 2 (by omega)).2.1; rw [hc2] at this; omega
              have hgc3 : gone + s3.c 2 = 80 * (i : Int) := by rw [k1, hc2]; exact HGC.out
              have hlq3 : ∀ b ∈ s3.q 2, (b.size : Int) ≤ lg2 := by rw [k2]; exact hlq2
              have HF := Lib.hid (fun hr => fair_round hgc3 hne3 hg3 hlq3 hr)
              have HWZ := Lib.hid (waits_zero (good_round hg3))
              have HR := Lib.hid (fun (V : World) (h : One 56 W V (fun _ => False) p s3) => o_round h hg3)
              have hg4 := Lib.hid (good_round hg3)
              have hfl := Lib.hid (roundF_len hg3)
              have hsm := Lib.hid (round_small hg3)
              have HNX4 := Lib.hid (show nx2 ≤ 4 * (i + 1) by omega)
              clear hX hXs hXi hO2 hg2 hlq2 hc2 f1 f2 hL4 hL HO HG HLQ hY hs3 hen k1 k2 hne3 hgc3 hlq3 hg3 hlen2 HLQ2 HG2 HGC
              generalize roundF s3 = fl at *
              generalize roundS s3 = s4 at *
              go_wp2_with (first
                | (have z := T1; go_at_call 12; refine (HT.out _).mono ?_; rintro e w3 ⟨rfl, hb⟩; have N1 := Lib.hid (HO2.out.below hb); clear hb T1 z; have T2 := trivial)
                | (have z := T2; go_at_call 11; refine (HP.out _ N1.out).mono ?_; rintro e w4 ⟨rfl, hO4, -⟩; have N2 := Lib.hid hO4; clear hO4 N1 T2 z; have T3 := trivial)
                | (have z := T3; go_at_call 12; refine (HT2.out _).mono ?_; rintro e w5 ⟨rfl, hb⟩; have N3 := Lib.hid (N2.out.below hb); clear hb T3 z N2; have T4 := trivial)
                | (have z := T4; go_at_call 11; refine (HP2.out _ N3.out).mono ?_; rintro e w6 ⟨rfl, hO6, -⟩; have N4 := Lib.hid hO6; clear hO6 N3 T4 z; have T5 := trivial)
                | (have z := T5; go_at_call 9; refine (HR.out _ N4.out).mono ?_; rintro e w7 ⟨v, rfl, ho, hO7, -⟩; have N5 := Lib.hid (hO7.less (F' := fun _ => False) (fun _ c => c.elim)); obtain ⟨va, vc, rfl, hsl, -⟩ := ho.sli EF; have HSL := Lib.hid hsl.lst; clear ho hsl hO7 N4 T5 z))
              obtain ⟨w8, hw8⟩ : ∃ w8, w8 = w7 := ⟨_, rfl⟩
              have HW8 := Lib.hid hw8
              clear hw8
              generalize hfn : fl.length = fn at *
              have HFN := Lib.hid hfn
              clear hfn
              go_loopg [9, 15] fn (fun gq v9 v15 wr3 => ∃ k : Nat, wr3 = w7 ∧ k + gq = fn ∧ v15 = .int .i64 (k : Int) ∧ v9 = .int .i64 (gone + goneOf (fl.take k)))
              case atStart => exact ⟨0, rfl, by omega, rfl, by simp [goneOf]⟩
              case round =>
                obtain ⟨k, rfl, hkq, rfl, rfl⟩ := hrel
                have hgb := goneOf_bound (l := fl) (by rw [HFN.out]; exact hfl.out) hsm.out k
                have hg0 := hgb.1
                have hg1 := hgb.2
                have hf24 : fn ≤ 24 := hfl.out
                clear hgb
                by_cases hlk : k < fn
                · have hlki : (k : Int) < (fn : Int) := by omega
                  have hkl : k < fl.length := by have := HFN.out; omega
                  have HSN := Lib.hid (goneOf_snoc hkl)
                  obtain ⟨bb, oo, rfl, hcc⟩ := HSL.out k hkl
                  obtain ⟨d0, d1, d2⟩ := fr_cells hcc
                  have hxs : (fl.getD k default).2.size ≤ 8192 := hsm.out _ (by rw [List.getD_eq_getElem?_getD, List.getElem?_eq_getElem hkl]; exact List.getElem_mem hkl)
                  clear hcc d0
                  generalize fl.getD k default = y at *
                  obtain ⟨y1, y2⟩ := y
                  simp only at d1 d2 hxs
                  generalize goneOf (fl.take k) = gs at *
                  by_cases hy : y1 = 2
                  · subst hy
                    have hsn2 := Lib.hid (show goneOf (fl.take (k + 1)) = gs + (y2.size : Int) by rw [HSN.out]; simp)
                    have hb2 : (y2.size : Int) ≤ 8192 := by omega
                    go_wp2
                    go_roundg (gk - 1)
                    case measure => omega
                    case rel => exact ⟨k + 1, rfl, by omega, by simp, by rw [hsn2.out, Int.add_assoc]⟩
                  · have hsn2 := Lib.hid (show goneOf (fl.take (k + 1)) = gs by rw [HSN.out, if_neg hy]; omega)
                    have hyb : ((y1 : Int) == 2) = false := beq_eq_false_iff_ne.2 (by omega)
                    clear hy
                    go_wp2
                    go_roundg (gk - 1)
                    case measure => omega
                    case rel => exact ⟨k + 1, rfl, by omega, by simp, by rw [hsn2.out]⟩
                · have hge : (fn : Int) ≤ (k : Int) := by omega
                  have hgall : goneOf (fl.take k) = goneOf fl := by rw [List.take_of_length_le (by have := HFN.out; omega)]
                  rw [hgall] at hg0 hg1 ⊢
                  have HW := Lib.hid (o_waits (lk := 2) N5.out hg4.out)
                  clear hlk hgall
                  by_cases hw : waitsS s4 2 = 0
                  · rw [hw] at HW
                    go_wp2_with (first
                      | (go_at_call 16; refine HW.out.mono ?_; rintro e w9 ⟨rfl, rfl⟩)
                      | (go_at_call 18; refine (works_any _).mono ?_; rintro e w9 ⟨rfl, hb⟩))
                    go_ret
                    exact retB rfl (grew_trans N5.out.bel hb)
                  · obtain ⟨z1, z2, z3, z4⟩ := HF.out (fun e => hw (HWZ.out.2 e))
                    have HZ1 := Lib.hid z1
                    have HZ4 := Lib.hid z4
                    have hwb : (waitsS s4 2 == 0) = false := beq_eq_false_iff_ne.2 hw
                    have q1 : gone + goneOf fl ≤ (↑i + 1) * 80 := by omega
                    have q2 : (↑i + 1) * 80 < gone + goneOf fl + lg2 := by omega
                    have q3 : ¬ gone + goneOf fl + lg2 ≤ (↑i + 1) * 80 := by omega
                    clear hw z1 z4
                    generalize waitsS s4 2 = wn at *
                    generalize goneOf fl = gf at *
                    go_wp2_with (go_at_call 16; refine HW.out.mono ?_; rintro e w9 ⟨rfl, rfl⟩)
                    go_roundg (R - i - 1)
                    case measure => omega
                    case rel => exact ⟨i + 1, nx2, gone + gf, lg2, s4, by omega, by simp, rfl, rfl, rfl, N5.out, hg4.out, HNX4.out, by rw [HZ1.out]; simp, by omega, by omega, by omega, HZ4.out⟩
        · have hge : (R : Int) ≤ (i : Int) := by omega
          clear hlt
          go_wp2_with (go_at_call 18; refine (works_any _).mono ?_; rintro e w2 ⟨rfl, hb⟩)
          go_ret
          exact retB rfl (grew_trans HO.out.bel hb)
end Go.Proofs.Ytkojjnkohnokoaa
