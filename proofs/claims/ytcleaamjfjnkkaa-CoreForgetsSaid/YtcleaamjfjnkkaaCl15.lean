/- CoreForgets. -/
import Derived.Test.YtcleaamjfjnkkaaClC
import Derived.Test.YtcleaamjfjnkkaaCoA
import Derived.Deep.MidRow
namespace Go.Proofs.Ytcleaamjfjnkkaa
open Go.RowKit Go.Joins

theorem KUpd.back {w w' : World} {base q : Nat} {V : Nat → VM} {l : LM} {ys : List RY} {k k' : Clu} (h : KAt w base q V l ys k) (hb : base ≤ w.heap.size) (hU : KUpd base q V l k' w w') : Below base w w' := by
  obtain ⟨_, _, _, _, hm, _⟩ := hU
  exact hm.below hb (fun b hk => (h.lt b hk).1)
theorem KUpd.bel {w w' w2 : World} {base q : Nat} {V : Nat → VM} {l : LM} {k' : Clu} (hU : KUpd base q V l k' w w') (hb : Below w'.heap.size w' w2) : KUpd base q V l k' w w2 := by
  obtain ⟨V', l', ys', k1, k2, k3⟩ := hU
  exact ⟨V', l', ys', k1.below hb, k2.trans (Mod.bel hb), k3⟩
theorem short_all {w : World} (m : Mg) (ea : Option Addr) (ec : Nat) (r : Nat → Value) (hin : InE w ea ec m.ents) (hr : ∀ i, i < 17 → (r i).oneCell' = true) :
    ∃ k, (m.ents.take 20).length = k ∧ k ≤ 20 ∧ Calls Try.prog 16 #[.agg #[.int .i64 m.kind, .int .u64 m.term, .int .i64 m.prev, .int .u64 m.pterm, .slice ea m.ents.length ec, .int .i64 m.commit, .bool m.yes, .int .i64 m.mat, .int .i64 m.stamp, r 0, r 1, r 2, r 3, r 4, r 5, r 6, r 7, r 8, r 9, r 10, r 11, r 12, r 13, r 14, r 15, r 16]] w (ShortP m k r w) := by
  by_cases h : 20 < m.ents.length
  · exact ⟨20, by simp; omega, Nat.le_refl _, shortA m ea m.ents.length ec r rfl hin hr h⟩
  · exact ⟨m.ents.length, by simp; omega, by omega, shortB m ea m.ents.length ec r rfl hin hr (by omega)⟩
theorem list17q {l : List Value} (h : l.length = 17) : ∃ r : Nat → Value, l = [r 0, r 1, r 2, r 3, r 4, r 5, r 6, r 7, r 8, r 9, r 10, r 11, r 12, r 13, r 14, r 15, r 16] ∧ ∀ i, i < 17 → r i ∈ l := by
  refine ⟨fun i => l.getD i undef, ?_, fun i hi => ?_⟩
  · obtain ⟨b0, b1, b2, b3, b4, b5, b6, b7, b8, b9, b10, b11, b12, b13, b14, b15, b16, rfl⟩ := list17 h
    rfl
  · simp only [List.getD, List.getElem?_eq_getElem (show i < l.length by omega), Option.getD_some]
    exact List.getElem_mem _
theorem role0 {w : World} {base p : Nat} {lv ov tv : Value} {c : Co} (h : CL w base p lv ov tv c) (hr : c.role = 0) : Calls Try.prog 13 #[.pointer (some ⟨p, 0, none⟩)] w (SameI 0 w) := by
  have h2 := role_any h
  rwa [hr] at h2
theorem cuntil0 {w : World} {base p : Nat} {lv ov tv : Value} {c : Co} (h : CL w base p lv ov tv c) (ok : Ok c) (hu : c.until_ = 0) : Calls Try.prog 15 #[.pointer (some ⟨p, 0, none⟩)] w (RetI 0 w) := by
  have h2 := cuntil_any h ok.now (fun v hv => (ok.pr v hv).1)
  rwa [hu] at h2
theorem OutN.eat {base p N : Nat} {lv lv' tv' : Value} {c' : Co} {w w' : World} {a : Option Addr} {cap : Nat} {os' : List RM} (h : OutN base p lv N c' w w' lv' a cap tv' os') {x : RM} (hE : EAt w (CF p lv NIL NIL) x) : EAt w' (CF p lv' NIL NIL) x :=
  hE.mod h.mod (fun k hk => by
    have h2 : CF p lv' (.slice a N cap) tv' k := by
      rcases hk with e | e | e | e
      · exact .inl e
      · exact .inr (.inl e)
      · cases e
      · cases e
    exact h.fr k h2)
set_option linter.unusedSimpArgs false in
set_option linter.unusedVariables false in
set_option maxHeartbeats 8000000 in
set_option maxRecDepth 100000 in
theorem lawForgets (a1 : Option Addr) (cap1 : Nat) (bs : List Int) (me : Int) (m : Mg) (ea : Option Addr) (ec : Nat) (r : Nat → Value) (W : World) (hby : InB W a1 cap1 bs) (hme : 0 ≤ me ∧ me ≤ 255) (hin : InE W ea ec m.ents) (hr : ∀ i, i < 17 → (r i).oneCell' = true)
    (hmo : (0 ≤ m.term ∧ m.term ≤ 18446744073709551615) ∧ I64 m.prev ∧ I64 m.commit ∧ I64 m.mat ∧ I64 m.stamp) :
    Calls Try.prog 5 #[.slice a1 bs.length cap1, .int .u8 me, .agg #[.int .i64 m.kind, .int .u64 m.term, .int .i64 m.prev, .int .u64 m.pterm, .slice ea m.ents.length ec, .int .i64 m.commit, .bool m.yes, .int .i64 m.mat, .int .i64 m.stamp, r 0, r 1, r 2, r 3, r 4, r 5, r 6, r 7, r 8, r 9, r 10, r 11, r 12, r 13, r 14, r 15, r 16]] W (RetB true W) := by
  have mixed : Try.prog.follows .mixedOrders = true := by kernel_rfl
  obtain ⟨N, hN, hN2⟩ : ∃ N : Nat, N ≤ 150 ∧ (∀ t : Nat, t < N ↔ 2 * t + 1 < bs.length ∧ 2 * t < 300) := ⟨min (bs.length / 2) 150, by omega, fun t => by omega⟩
  have HN := Lib.hid (And.intro hN hN2)
  have HBY := Lib.hid hby
  have HIN := Lib.hid hin
  have HR := Lib.hid hr
  have HMO := Lib.hid hmo
  obtain ⟨hme0, hme1⟩ := hme
  have hlsm : (bs.length : Int) ≤ 9223372036854775807 := by have h4 := hby.len; have h5 := hby.capm; unfold maxLen at h5; omega
  clear hby hin hr hmo hN hN2
  go_enter Try.func5, Try.ntmps5
  go_upto_region 4 with (go_at_call 18; refine (gathered_any _).mono ?_; rintro e w1 ⟨q, V, rfl, hK, hB⟩; have K0 := Lib.hid hK; have B0 := Lib.hid hB; clear hK hB)
  have hRB := blk_below (heap_alloc_new W (.cells #[.int .i64 m.kind, .int .u64 m.term, .int .i64 m.prev, .int .u64 m.pterm, .slice ea m.ents.length ec, .int .i64 m.commit, .bool m.yes, .int .i64 m.mat, .int .i64 m.stamp, r 0, r 1, r 2, r 3, r 4, r 5, r 6, r 7, r 8, r 9, r 10, r 11, r 12, r 13, r 14, r 15, r 16] 46)) B0.out
  have hRX : W.heap.size < (W.alloc (.cells #[.int .i64 m.kind, .int .u64 m.term, .int .i64 m.prev, .int .u64 m.pterm, .slice ea m.ents.length ec, .int .i64 m.commit, .bool m.yes, .int .i64 m.mat, .int .i64 m.stamp, r 0, r 1, r 2, r 3, r 4, r 5, r 6, r 7, r 8, r 9, r 10, r 11, r 12, r 13, r 14, r 15, r 16] 46)).heap.size := blk_lt (heap_alloc_new W (.cells #[.int .i64 m.kind, .int .u64 m.term, .int .i64 m.prev, .int .u64 m.pterm, .slice ea m.ents.length ec, .int .i64 m.commit, .bool m.yes, .int .i64 m.mat, .int .i64 m.stamp, r 0, r 1, r 2, r 3, r 4, r 5, r 6, r 7, r 8, r 9, r 10, r 11, r 12, r 13, r 14, r 15, r 16] 46))
  have hRS : Below W.heap.size W (W.alloc (.cells #[.int .i64 m.kind, .int .u64 m.term, .int .i64 m.prev, .int .u64 m.pterm, .slice ea m.ents.length ec, .int .i64 m.commit, .bool m.yes, .int .i64 m.mat, .int .i64 m.stamp, r 0, r 1, r 2, r 3, r 4, r 5, r 6, r 7, r 8, r 9, r 10, r 11, r 12, r 13, r 14, r 15, r 16] 46)) := bel1 W _
  generalize (W.alloc (.cells #[.int .i64 m.kind, .int .u64 m.term, .int .i64 m.prev, .int .u64 m.pterm, .slice ea m.ents.length ec, .int .i64 m.commit, .bool m.yes, .int .i64 m.mat, .int .i64 m.stamp, r 0, r 1, r 2, r 3, r 4, r 5, r 6, r 7, r 8, r 9, r 10, r 11, r 12, r 13, r 14, r 15, r 16] 46)) = X at *
  have MR := Lib.hid hRB
  have BR := Lib.hid hRS
  have RX := Lib.hid hRX
  clear hRB hRS hRX
  have U00 := Lib.hid (K0.out.stay (Below.refl _ w1))
  have HB0 := Lib.hid (show X.heap.size ≤ w1.heap.size from B0.out.size)
  go_wp2
  go_loopg [8] N (fun gk u wr => ∃ t x : Nat, t + gk = N ∧ x = 2 * t ∧ u = .int .i64 (x : Int) ∧ KUpd X.heap.size q V lm0 (clu0.runN bs t) w1 wr)
  case atStart => exact ⟨0, 0, by omega, rfl, rfl, U00.out⟩
  case round =>
    obtain ⟨t, x, htk, hx, rfl, hU⟩ := hrel
    have U0 := Lib.hid hU
    have BW := Lib.hid (KUpd.back K0.out HB0.out hU)
    have HX := Lib.hid hx
    clear hU U00
    by_cases hlt : t < N
    · have h5 := (HN.out.2 t).1 hlt
      have hx1 : (x : Int) + 1 < (bs.length : Int) := by omega
      have hx2 : (x : Int) < (bs.length : Int) := by omega
      have hx3 : (x : Int) < 300 := by omega
      have hx4 : x < bs.length := by omega
      have hx5 : x + 1 < bs.length := by omega
      have hw1 : IntKind.i64.wrap ((x : Int) + 1) = (x : Int) + 1 := by simp [IntKind.wrap, IntKind.signed, IntKind.bits]; omega
      have hw2 : 0 ≤ (x : Int) + 1 := by omega
      have hw3 : ((x : Int) + 1).toNat = x + 1 := by omega
      have hw4 : IntKind.i64.wrap ((x : Int) + 2) = (x : Int) + 2 := by simp [IntKind.wrap, IntKind.signed, IntKind.bits]; omega
      obtain ⟨bb, off, rfl, c0⟩ := HBY.out.cells x hx4
      obtain ⟨bb2, off2, e2, c1⟩ := HBY.out.cells (x + 1) hx5
      simp at e2
      obtain ⟨rfl, rfl⟩ := e2
      have y8 := HBY.out.by8 x
      have y9 := HBY.out.by8 (x + 1)
      have SN := Lib.hid (fun Wx (hU : KUpd X.heap.size q V lm0 (clu0.runN bs t) w1 Wx) => kstep_on hU (cinv0.run HBY.out.by8 t (by have := HN.out.1; omega)) (by have := HN.out.1; omega) (bs.getD x 0) (bs.getD (x + 1) 0) y8 y9)
      have c0 := keepc' c0 (BR.out.trans ((B0.out.trans BW.out).mono BR.out.size))
      have c1 := keepc' c1 (BR.out.trans ((B0.out.trans BW.out).mono BR.out.size))
      have HST := Lib.hid (show clu0.runN bs (t + 1) = (clu0.runN bs t).stepN (bs.getD x 0) (bs.getD (x + 1) 0) by rw [HX.out]; rfl)
      clear y8 y9 h5 hx
      generalize bs.getD x 0 = va at *
      generalize bs.getD (x + 1) 0 = vb at *
      go_upto_region 7 with fail
      refine wp_region_noPanic ?_
      refine wp_region_lim (BelS wr) (fun i => decide (i < 10)) (fun i => false) (by kernel_rfl) (by kernel_rfl) (Below.refl _ wr).drew (fun HT hS0 => ?_)
      refine tkD HT 0 28 (v := ?_) ?_ ?_
      rotate_left
      · (intro w5 hSw; go_simp; (try with_reducible rfl))
      try simp only [s1, s2, s3]
      refine tkD HT 1 29 (v := ?_) ?_ ?_
      rotate_left
      · (intro w5 hSw; go_simp; (try with_reducible rfl))
      try simp only [s1, s2, s3]
      refine tkD HT 2 30 (v := ?_) ?_ ?_
      rotate_left
      · (intro w5 hSw; go_simp; (try with_reducible rfl))
      try simp only [s1, s2, s3]
      refine tkD HT 3 31 (v := ?_) ?_ ?_
      rotate_left
      · (intro w5 hSw; go_simp; (try with_reducible rfl))
      try simp only [s1, s2, s3]
      refine tkD HT 4 32 (v := ?_) ?_ ?_
      rotate_left
      · (intro w5 hSw; have q1 := keepc' c0 (show Below wr.heap.size wr w5 from hSw); go_simp; (try with_reducible rfl))
      try simp only [s1, s2, s3]
      refine tkD HT 5 33 (v := ?_) ?_ ?_
      rotate_left
      · (intro w5 hSw; go_simp; (try with_reducible rfl))
      try simp only [s1, s2, s3]
      refine tkD HT 6 34 (v := ?_) ?_ ?_
      rotate_left
      · (intro w5 hSw; go_simp; (try with_reducible rfl))
      try simp only [s1, s2, s3]
      refine tkD HT 7 35 (v := ?_) ?_ ?_
      rotate_left
      · (intro w5 hSw; go_simp; (try with_reducible rfl))
      try simp only [s1, s2, s3]
      refine tkD HT 8 36 (v := ?_) ?_ ?_
      rotate_left
      · (intro w5 hSw; go_simp; (try with_reducible rfl))
      try simp only [s1, s2, s3]
      refine tkD HT 9 37 (v := ?_) ?_ ?_
      rotate_left
      · (intro w5 hSw; have q1 := keepc' c1 (show Below wr.heap.size wr w5 from hSw); go_simp; (try with_reducible rfl))
      try simp only [s1, s2, s3]
      refine tkL 10 (fun K5 hK => ?_)
      go_simp
      go_at_call 19
      refine (SN.out _ (U0.out.bel (Below.refl _ wr).drew)).mono ?_
      rintro e w6 ⟨rfl, hU⟩
      have U1 := Lib.hid hU
      clear hU
      dsimp only
      refine hK.out _ _ ?_
      clear hK K5
      try simp only [Act.put, s1, s2, s3]
      refine wpAnyM_done (by kernel_rfl) (NoPanic.normal ?_)
      clear SN c0 c1 hS0 HT
      have HU1 := Lib.hid (show KUpd X.heap.size q V lm0 (clu0.runN bs (t + 1)) w1 _ from by rw [HST.out]; exact U1.out)
      go_wp2
      go_roundg (gk - 1)
      case measure => omega
      case rel => exact ⟨t + 1, x + 2, by omega, by have := HX.out; omega, by simp, HU1.out⟩
    · have hexit : (bs.length : Int) ≤ (x : Int) + 1 ∨ ((x : Int) + 1 < (bs.length : Int) ∧ 300 ≤ (x : Int)) := by
        have h5 : ¬ (2 * t + 1 < bs.length ∧ 2 * t < 300) := fun h => hlt ((HN.out.2 t).2 h)
        omega
      have ht150 : t ≤ 150 := by have := HN.out.1; omega
      have hx300 : (x : Int) ≤ 300 := by omega
      have hw1 : IntKind.i64.wrap ((x : Int) + 1) = (x : Int) + 1 := by simp [IntKind.wrap, IntKind.signed, IntKind.bits]; omega
      obtain ⟨n, hbn⟩ := Int.eq_ofNat_of_zero_le (show 0 ≤ me % 3 by omega)
      have hn : n < 3 := by omega
      have hnI : (n : Int) < 3 := by omega
      have hwm : IntKind.i64.wrap me = me := by simp [IntKind.wrap, IntKind.signed, IntKind.bits]; omega
      have HN3 := Lib.hid hn
      have INV := Lib.hid (cinv0.run HBY.out.by8 t (by omega))
      have HT150 := Lib.hid ht150
      obtain ⟨V2, l2, ys2, hk2, -, -⟩ := U0.out
      have KK := Lib.hid hk2
      generalize clu0.runN bs t = k at *
      have g1 := (hk2.cells hn).1
      unfold ptr at g1
      have g3 := (hk2.cells hn).2.1
      have HD := Lib.hid (fun Wx (hb : Below wr.heap.size wr Wx) => hard_any ((hk2.below hb).co n hn) (INV.out.ok n hn).log)
      have AN := Lib.hid (INV.out.anew (by omega) hn 0)
      have HNW := Lib.hid (show ∀ (Wx : World) (y : Option Addr) (cp : Nat), Sl Wx y cp (k.co n).log → Calls Try.prog 8 #[.int .i64 (n : Int), .agg #[.int .u64 (k.co n).term, .int .i64 (k.co n).voted, .slice y (k.co n).log.length cp], .int .i64 (k.clk n), .int .i64 0] Wx (NewP (k.anew n 0) Wx) from fun Wx y cp hs => new_yes (n : Int) (k.co n).term (k.co n).voted (k.clk n) 0 y _ cp (k.co n).log rfl hs (Nat.le_trans (INV.out.ok n hn).log (by omega)) (INV.out.ok n hn).wf (i64c (by omega) (by omega)) AN.out.1)
      clear hk2 hn hlt ht150 hx U0
      rcases hexit with hx1 | ⟨hx1, hx2⟩
      all_goals
        go_upto_region 9 with fail
        refine wp_region_noPanic ?_
        refine wp_region_lim (BelS wr) (fun i => decide (i < 15)) (fun i => false) (by kernel_rfl) (by kernel_rfl) (Below.refl _ wr).drew (fun HT hS0 => ?_)
        refine tkD HT 0 42 (v := ?_) ?_ ?_
        rotate_left
        · (intro w5 hSw; go_simp; (try with_reducible rfl))
        try simp only [s1, s2, s3]
        refine tkD HT 1 43 (v := ?_) ?_ ?_
        rotate_left
        · (intro w5 hSw; go_simp; (try with_reducible rfl))
        try simp only [s1, s2, s3]
        refine tkD HT 2 44 (v := ?_) ?_ ?_
        rotate_left
        · (intro w5 hSw; go_simp; (try with_reducible rfl))
        try simp only [s1, s2, s3]
        refine tkD HT 3 45 (v := ?_) ?_ ?_
        rotate_left
        · (intro w5 hSw; go_simp; (try with_reducible rfl))
        try simp only [s1, s2, s3]
        refine tkD HT 4 46 (v := ?_) ?_ ?_
        rotate_left
        · (intro w5 hSw; go_simp; (try with_reducible rfl))
        try simp only [s1, s2, s3]
        refine tkD HT 5 47 (v := ?_) ?_ ?_
        rotate_left
        · (intro w5 hSw; go_simp; (try with_reducible rfl))
        try simp only [s1, s2, s3]
        refine tkD HT 6 48 (v := ?_) ?_ ?_
        rotate_left
        · (intro w5 hSw; have q1 := keepc' g1 (show Below wr.heap.size wr w5 from hSw); go_simp; (try with_reducible rfl))
        try simp only [s1, s2, s3]
        refine tkD HT 8 50 (v := ?_) ?_ ?_
        rotate_left
        · (intro w5 hSw; go_simp; (try with_reducible rfl))
        try simp only [s1, s2, s3]
        refine tkD HT 9 51 (v := ?_) ?_ ?_
        rotate_left
        · (intro w5 hSw; go_simp; (try with_reducible rfl))
        try simp only [s1, s2, s3]
        refine tkD HT 10 52 (v := ?_) ?_ ?_
        rotate_left
        · (intro w5 hSw; go_simp; (try with_reducible rfl))
        try simp only [s1, s2, s3]
        refine tkD HT 11 53 (v := ?_) ?_ ?_
        rotate_left
        · (intro w5 hSw; go_simp; (try with_reducible rfl))
        try simp only [s1, s2, s3]
        refine tkD HT 12 54 (v := ?_) ?_ ?_
        rotate_left
        · (intro w5 hSw; go_simp; (try with_reducible rfl))
        try simp only [s1, s2, s3]
        refine tkD HT 13 55 (v := ?_) ?_ ?_
        rotate_left
        · (intro w5 hSw; have q1 := keepc' g3 (show Below wr.heap.size wr w5 from hSw); go_simp; (try with_reducible rfl))
        try simp only [s1, s2, s3]
        refine tkS 7 (fun K5 hK => ?_)
        go_simp
        go_at_call 12
        refine (HD.out _ (Below.refl _ wr).drew).mono ?_
        rintro e w6 ⟨ah, ch, rfl, hho, hbh⟩
        obtain ⟨la, lc, hv, hsl, -⟩ := own_sl hho
        simp at hv
        obtain ⟨rfl, -, rfl⟩ := hv
        have B6 := Lib.hid ((Below.refl _ wr).drew.trans (hbh.mono (show wr.heap.size ≤ wr.drew.heap.size from Nat.le_refl _)))
        have SL := Lib.hid hsl
        clear hbh hho hsl
        dsimp only
        refine hK.out _ _ B6.out (fun hS1 => ?_)
        clear hK K5
        try simp only [Act.put, s1, s2, s3]
        refine tkS 14 (fun K5 hK => ?_)
        go_simp
        go_at_call 8
        refine (HNW.out _ _ _ SL.out).mono ?_
        rintro e w7 ⟨p, lv, rfl, hC, hbh⟩
        have B7 := Lib.hid (B6.out.trans (hbh.mono B6.out.size))
        have C7 := Lib.hid (hC)
        have L7 := Lib.hid (show wr.heap.size ≤ w6.heap.size from B6.out.size)
        clear hbh hC
        dsimp only
        refine hK.out _ _ B7.out (fun hS2 => ?_)
        clear hK K5
        try simp only [Act.put, s1, s2, s3]
        refine tkL 15 (fun K5 hK => ?_)
        go_simp
        refine hK.out _ _ ?_
        clear hK K5
        try simp only [Act.put, s1, s2, s3]
        refine wpAnyM_done (by kernel_rfl) (NoPanic.normal ?_)
        have MR7 := Lib.hid ((B7.out.block W.heap.size (by have := RX.out; have := HB0.out; have := BW.out.size; omega)).trans ((BW.out.block _ RX.out).trans MR.out))
        have BA := Lib.hid (BR.out.trans ((B0.out.trans (BW.out.trans (B7.out.mono (Nat.le_trans HB0.out BW.out.size)))).mono BR.out.size))
        obtain ⟨kk, hkl, hk20, hsh⟩ := short_all (w := w7) m ea ec r ⟨ents_below HIN.out.ents BA.out, HIN.out.nil0, HIN.out.len, HIN.out.capm, HIN.out.wf⟩ HR.out
        have SH := Lib.hid hsh
        have HKL := Lib.hid (And.intro hkl hk20)
        clear hsh hkl hk20 HT hS0 hS1 hS2 SL
        go_upto_region 13 with (first
          | (with_reducible refine wpList_load_row rfl 46 (.tmp 5) rfl W.heap.size rfl 46 _ (0, 0) _ MR7.out Try.underlying46 rfl (by kernel_rfl) ?_)
          | (with_reducible refine wpList_store_row rfl 46 (.tmp 5) (.tmp 60) rfl W.heap.size _ rfl rfl 46 _ (blk_below MR7.out B8.out) (by kernel_rfl) (by kernel_rfl) H1.out ?_)
          | (go_at_call 16; refine SH.out.mono ?_; rintro e w8 ⟨a5, c5, rfl, ho5, hb5⟩; have O5 := Lib.hid ho5; have B8 := Lib.hid hb5; have H1 := Lib.hid (marr_one (m := m) (a := a5) (k := kk) (c := c5) HR.out); clear ho5 hb5))
        have hR8 := blk_below MR7.out B8.out
        have M9 := Lib.hid (setRow_heap _ W.heap.size _ (mArr m a5 kk c5 r) _ _ hR8)
        have D9 := Lib.hid (show Mod (fun b => b = W.heap.size) w8 (w8.setRow W.heap.size (mArr m a5 kk c5 r)) from ⟨rfl, rfl, rfl, by simp [World.setRow], fun b _ hb => setRow_other _ _ _ _ hb⟩)
        clear hR8
        generalize w8.setRow W.heap.size (mArr m a5 kk c5 r) = w9 at *
        have C9 := Lib.hid ((C7.out.below B8.out).mod D9.out (fun e => by have := C7.out.lt.1; have := RX.out; have := HB0.out; have := BW.out.size; have := L7.out; omega) (fun g hg e => by have := (C7.out.lt.2 g hg).1; have := RX.out; have := HB0.out; have := BW.out.size; have := L7.out; omega))
        have c9 := D9.out.cell (keepc' (keepc' g3 B7.out) B8.out) (by show q ≠ W.heap.size; have := KK.out.bp; have := RX.out; omega)
        have BK := Lib.hid (show Below W.heap.size W w9 from BA.out.trans (((B8.out.mono (by have := BA.out.size; omega)).trans (D9.out.below (by have := BA.out.size; have := B8.out.size; omega) (fun b e => by omega)))))
        have AN0 := Lib.hid (Anew.new n (k.co n).term (k.co n).voted (k.co n).log (k.clk n))
        have OK0 := Lib.hid (show Ok (k.anew n 0) from by have h5 := AN.out.2.ok n HN3.out; change Ok (upd k.co n (k.anew n 0) n) at h5; rwa [show (upd k.co n (k.anew n 0)) n = k.anew n 0 from upd_at _ _ _] at h5)
        have HW6 := Lib.hid (show W.heap.size < w6.heap.size by have := RX.out; have := HB0.out; have := BW.out.size; have := L7.out; omega)
        have HQ := Lib.hid (show q < w6.heap.size from Nat.lt_of_lt_of_le (World.block_lt_of_cell? _ _ g3) L7.out)
        have EA0 := Lib.hid (show EAt w9 (CF p lv NIL NIL) ⟨a5, c5, { m with ents := m.ents.take 20, kind := 1 }⟩ from by
          have hs := sl_of_own O5.out
          refine ⟨hs.mod D9.out (fun b off e => ?_), fun b2 off2 e => ?_⟩
          all_goals
            obtain ⟨ax, cx, hv, -, hblk⟩ := own_sl O5.out
            simp at hv
            obtain ⟨rfl, -, -⟩ := hv
            have h5 := hblk _ _ e
            have h6 := D9.out.size
            have h7 := C7.out.lt.1
            have h8 := RX.out
            have h9 := HB0.out
            have h10 := BW.out.size
            have h11 := L7.out
          · omega
          · refine ⟨by omega, ?_⟩
            rintro (e | e | e | e)
            · omega
            · have := (C7.out.lt.2 _ e).2; omega
            · cases e
            · cases e)
        go_wp2
        go_loopg [11, 12, 13] 24 (fun gk u11 _ _ wr => ∃ (t : Nat) (lv ov tv : Value) (c : Co), t + gk = 24 ∧ u11 = .int .i64 (t : Int) ∧ CL wr w6.heap.size p lv ov tv c ∧ Anew n (k.clk n) c ∧ Ok c ∧ EAt wr (CF p lv NIL NIL) ⟨a5, c5, { m with ents := m.ents.take 20, kind := 1 }⟩ ∧ wr.heap[W.heap.size]? = some (.cells (mArr m a5 kk c5 r) 46 (0, 0)) ∧ wr.cell? ⟨q, 3 + n, none⟩ = some (.int .i64 (k.clk n)) ∧ Below W.heap.size W wr)
        case atStart => exact ⟨0, lv, NIL, NIL, _, by omega, rfl, C9.out, AN0.out, OK0.out, EA0.out, M9.out, c9, BK.out⟩
        case round =>
          obtain ⟨tt, lv1, ov1, tv1, c, htk, rfl, hC, hA, hO, hE, hM, hc, hB⟩ := hrel
          have C1 := Lib.hid hC
          have A1 := Lib.hid hA
          have O1 := Lib.hid hO
          have E1 := Lib.hid hE
          have M1 := Lib.hid hM
          have c1 := hc
          have B1 := Lib.hid hB
          clear hC hA hO hE hM hc hB C9 AN0 OK0 EA0 M9 c9 BK D9
          have hw6 : IntKind.i64.wrap ((tt : Int) + 1) = (tt : Int) + 1 := by simp [IntKind.wrap, IntKind.signed, IntKind.bits]; omega
          by_cases htt : tt < 24
          · have hti : (tt : Int) < 24 := by omega
            have hck := INV.out.clk n HN3.out
            have ht5 := HT150.out
            have hw5 : IntKind.i64.wrap (k.clk n + (tt : Int)) = k.clk n + (tt : Int) := by simp [IntKind.wrap, IntKind.signed, IntKind.bits]; omega
            have hw7 : IntKind.i64.wrap ((n : Int) + 1) = (n : Int) + 1 := by simp [IntKind.wrap, IntKind.signed, IntKind.bits]; omega
            have hn10 : 0 ≤ (n : Int) + 1 := by omega
            have HZ := Lib.hid (show I64 (k.clk n + (tt : Int)) from i64s (by omega))
            have hl := C1.out.lt.1
            have TK := Lib.hid (tick_any (k.clk n + (tt : Int)) 0 HZ.out (i64s (by omega)) C1.out O1.out)
            rw [A1.out.tick hti] at TK
            have A2 := Lib.hid (A1.out.begin (k.clk n + (tt : Int)))
            have O2 := Lib.hid (ok_begin O1.out HZ.out)
            go_upto_region 18 with (first
              | (go_at_call 11; refine TK.out.mono ?_; intro e w2 hO; obtain ⟨lv2, a2, cap2, tv2, os2, rfl, hN⟩ := outN (c' := c.begin (k.clk n + (tt : Int))) hO rfl; have N2 := Lib.hid hN; clear hO hN)
              | (go_at_call 13; refine (role0 N2.out.cat.toCL A2.out.role).mono ?_; rintro e w3 ⟨rfl, rfl⟩))
            have b2 := Lib.hid (N2.out.below C1.out (by omega))
            have M2 := Lib.hid ((b2.out.block _ HW6.out).trans M1.out)
            go_upto_region 19 with (first
              | (with_reducible refine wpList_load_row rfl 46 (.tmp 5) rfl W.heap.size rfl 46 _ (0, 0) _ M2.out Try.underlying46 rfl (by kernel_rfl) ?_)
              | (with_reducible refine wpList_store_row rfl 46 (.tmp 12) (.tmp 82) rfl w2.heap.size _ rfl rfl 46 _ (heap_alloc_new w2 _) (by kernel_rfl) (by kernel_rfl) H1.out ?_))
            have hms : Mod (fun k => k = w2.heap.size) (w2.alloc (.cells #[.int .i64 0, .int .u64 0, .int .i64 0, .int .u64 0, .slice none 0 0, .int .i64 0, .bool false, .int .i64 0, .int .i64 0, .int .u64 0, .int .i64 0, .bool false, .slice none 0 0, .int .i64 0, .int .u64 0, .int .u64 0, .int .u64 0, .int .u64 0, .int .i64 0, .int .u64 0, .int .u64 0, .int .u64 0, .int .u64 0, .int .i64 0, .int .i64 0, .slice none 0 0] 46)) ((w2.alloc (.cells #[.int .i64 0, .int .u64 0, .int .i64 0, .int .u64 0, .slice none 0 0, .int .i64 0, .bool false, .int .i64 0, .int .i64 0, .int .u64 0, .int .i64 0, .bool false, .slice none 0 0, .int .i64 0, .int .u64 0, .int .u64 0, .int .u64 0, .int .u64 0, .int .i64 0, .int .u64 0, .int .u64 0, .int .u64 0, .int .u64 0, .int .i64 0, .int .i64 0, .slice none 0 0] 46)).setRow w2.heap.size (mArr m a5 kk c5 r)) := ⟨rfl, rfl, rfl, by simp [World.setRow], fun k _ hk => setRow_other _ _ _ _ hk⟩
            have B3 := Lib.hid (show Below w2.heap.size w2 ((w2.alloc (.cells #[.int .i64 0, .int .u64 0, .int .i64 0, .int .u64 0, .slice none 0 0, .int .i64 0, .bool false, .int .i64 0, .int .i64 0, .int .u64 0, .int .i64 0, .bool false, .slice none 0 0, .int .i64 0, .int .u64 0, .int .u64 0, .int .u64 0, .int .u64 0, .int .i64 0, .int .u64 0, .int .u64 0, .int .u64 0, .int .u64 0, .int .i64 0, .int .i64 0, .slice none 0 0] 46)).setRow w2.heap.size (mArr m a5 kk c5 r)) from (bel1 w2 _).trans (hms.below (by simp) (fun k e => by omega)))
            have M3 := Lib.hid (setRow_heap _ w2.heap.size _ (mArr m a5 kk c5 r) _ _ (heap_alloc_new w2 (.cells #[.int .i64 0, .int .u64 0, .int .i64 0, .int .u64 0, .slice none 0 0, .int .i64 0, .bool false, .int .i64 0, .int .i64 0, .int .u64 0, .int .i64 0, .bool false, .slice none 0 0, .int .i64 0, .int .u64 0, .int .u64 0, .int .u64 0, .int .u64 0, .int .i64 0, .int .u64 0, .int .u64 0, .int .u64 0, .int .u64 0, .int .i64 0, .int .i64 0, .slice none 0 0] 46)))
            clear hms
            generalize (w2.alloc (.cells #[.int .i64 0, .int .u64 0, .int .i64 0, .int .u64 0, .slice none 0 0, .int .i64 0, .bool false, .int .i64 0, .int .i64 0, .int .u64 0, .int .i64 0, .bool false, .slice none 0 0, .int .i64 0, .int .u64 0, .int .u64 0, .int .u64 0, .int .u64 0, .int .i64 0, .int .u64 0, .int .u64 0, .int .u64 0, .int .u64 0, .int .i64 0, .int .i64 0, .slice none 0 0] 46)).setRow w2.heap.size (mArr m a5 kk c5 r) = w3 at *
            obtain ⟨x0, x0f⟩ := cell_of M3.out 0 (v := .int .i64 m.kind) rfl
            go_upto_region 20 with fail
            have M4 := Lib.hid (show (w3.setCell ⟨w2.heap.size, 0, none⟩ (.int .i64 1)).heap[w2.heap.size]? = some (.cells (mArr { m with ents := m.ents.take 20, kind := 1 } a5 kk c5 r) 46 (0, 0)) by rw [setCell_blk M3.out]; rfl)
            have B4 := Lib.hid (show Below w2.heap.size w2 (w3.setCell ⟨w2.heap.size, 0, none⟩ (.int .i64 1)) from B3.out.trans ((Mod.cellOf w2.heap.size 0 _).below B3.out.size (fun k e => by omega)))
            clear x0 x0f M3 B3
            generalize w3.setCell ⟨w2.heap.size, 0, none⟩ (.int .i64 1) = w4 at *
            have hl2 := N2.out.cat.toCL.lt.1
            have b4 := Lib.hid (b2.out.trans (B4.out.mono (by omega)))
            have c4 := (b4.out.cell (p := ⟨q, 3 + n, none⟩) HQ.out).trans c1
            have C4 := Lib.hid ((N2.out.cat.toCL.below B4.out).below (Below.refl _ w4).drew)
            have E4 := Lib.hid (((N2.out.eat E1.out).mod (Mod.bel B4.out) (fun k hk => .inl hk)).mod (Mod.bel (Below.refl _ w4).drew) (fun k hk => .inl hk))
            have MOK := Lib.hid (show MOk ({ m with ents := m.ents.take 20, kind := 1 } : Mg) from ⟨HMO.out.1, HMO.out.2.1, HMO.out.2.2.1, HMO.out.2.2.2.1, HMO.out.2.2.2.2, by show (m.ents.take 20).length ≤ 1000; rw [HKL.out.1]; have := HKL.out.2; omega, wf_mem.2 (fun e he => (HIN.out.wf e (List.mem_of_mem_take he)).1)⟩)
            have HH := Lib.hid (handle_any ({ m with ents := m.ents.take 20, kind := 1 } : Mg) a5 kk c5 r (((n : Int) + 1) % 3) (k.clk n + (tt : Int)) 0 HZ.out (i64s (by omega)) C4.out O2.out MOK.out HKL.out.1 E4.out)
            have OK5 := Lib.hid (Goo.handle (f := ((n : Int) + 1) % 3) O2.out MOK.out HZ.out 0).ok
            rw [A2.out.asked hti (by omega) (by omega) (by omega) rfl] at HH OK5
            have A5 := Lib.hid ((A2.out.begin (k.clk n + (tt : Int))).send (((n : Int) + 1) % 3) (mg0 2))
            refine wp_region_noPanic ?_
            refine wp_region_lim (BelS w4) (fun i => decide (i < 13)) (fun i => false) (by kernel_rfl) (by kernel_rfl) (Below.refl _ w4).drew (fun HT hS0 => ?_)
            refine tkD HT 0 84 (v := ?_) ?_ ?_
            rotate_left
            · (intro w5 hSw; go_simp; (try with_reducible rfl))
            try simp only [s1, s2, s3]
            refine tkD HT 1 85 (v := ?_) ?_ ?_
            rotate_left
            · (intro w5 hSw; go_simp; (try with_reducible rfl))
            try simp only [s1, s2, s3]
            refine tkD HT 2 86 (v := ?_) ?_ ?_
            rotate_left
            · (intro w5 hSw; go_simp; (try with_reducible rfl))
            try simp only [s1, s2, s3]
            refine tkD HT 3 87 (v := ?_) ?_ ?_
            rotate_left
            · (intro w5 hSw; go_simp; (try with_reducible rfl))
            try simp only [s1, s2, s3]
            refine tkD HT 4 88 (v := ?_) ?_ ?_
            rotate_left
            · (intro w5 hSw; have q4 := blk_below M4.out (show Below w4.heap.size w4 w5 from hSw); refine exec_load_row 46 (.tmp 12) ?_ w2.heap.size ?_ 46 _ (0, 0) _ q4 Try.underlying46 rfl ?_; rfl; rfl; kernel_rfl)
            try simp only [s1, s2, s3]
            refine tkD HT 5 89 (v := ?_) ?_ ?_
            rotate_left
            · (intro w5 hSw; go_simp; (try with_reducible rfl))
            try simp only [s1, s2, s3]
            refine tkD HT 6 90 (v := ?_) ?_ ?_
            rotate_left
            · (intro w5 hSw; go_simp; (try with_reducible rfl))
            try simp only [s1, s2, s3]
            refine tkD HT 7 91 (v := ?_) ?_ ?_
            rotate_left
            · (intro w5 hSw; go_simp; (try with_reducible rfl))
            try simp only [s1, s2, s3]
            refine tkD HT 8 92 (v := ?_) ?_ ?_
            rotate_left
            · (intro w5 hSw; go_simp; (try with_reducible rfl))
            try simp only [s1, s2, s3]
            refine tkD HT 9 93 (v := ?_) ?_ ?_
            rotate_left
            · (intro w5 hSw; go_simp; (try with_reducible rfl))
            try simp only [s1, s2, s3]
            refine tkD HT 10 94 (v := ?_) ?_ ?_
            rotate_left
            · (intro w5 hSw; have q1 := keepc' c4 (show Below w4.heap.size w4 w5 from hSw); go_simp; (try with_reducible rfl))
            try simp only [s1, s2, s3]
            refine tkD HT 11 95 (v := ?_) ?_ ?_
            rotate_left
            · (intro w5 hSw; go_simp; (try with_reducible rfl))
            try simp only [s1, s2, s3]
            refine tkD HT 12 96 (v := ?_) ?_ ?_
            rotate_left
            · (intro w5 hSw; go_simp; (try with_reducible rfl))
            try simp only [s1, s2, s3]
            refine tkL 13 (fun K5 hK => ?_)
            go_simp
            go_at_call 17
            refine HH.out.mono ?_
            intro e w5 hO
            obtain ⟨lv5, a6, cap5, tv5, os5, rfl, hN⟩ := outN hO (show _ = 1 from rfl)
            have N5 := Lib.hid hN
            clear hO hN
            dsimp only
            refine hK.out _ _ ?_
            clear hK K5
            try simp only [Act.put, s1, s2, s3]
            refine tkL 14 (fun K5 hK => ?_)
            go_simp
            refine hK.out _ _ ?_
            clear hK K5
            try simp only [Act.put, s1, s2, s3]
            refine wpAnyM_done (by kernel_rfl) (NoPanic.normal ?_)
            obtain ⟨g5, cu5, rfl, hf5, -, hh5, hc5⟩ := N5.out.row (by omega)
            have k0 := hc5 0 (by omega) 0 (.int .i64 2) (by rw [show (encM (os5.getD 0 default))[0]? = some (.int .i64 (os5.getD 0 default).m.kind) from rfl, N5.out.kind 0 (by omega)]; rfl)
            have k6 := hc5 0 (by omega) 6 (.bool false) (by rw [show (encM (os5.getD 0 default))[6]? = some (.bool (os5.getD 0 default).m.yes) from rfl, N5.out.kind 0 (by omega)]; rfl)
            have e0 := (cell_of hh5 0 (by simpa using k0)).1
            have e6 := (cell_of hh5 6 (by simpa using k6)).1
            clear hf5 hh5 hc5 k0 k6 c4 HT hS0
            go_wp2
            go_roundg (gk - 1)
            case measure => omega
            case rel =>
              have b5 := b4.out.drew.trans (N5.out.below C4.out (show w6.heap.size ≤ w4.heap.size from by have := b4.out.size; omega))
              exact ⟨tt + 1, lv5, _, tv5, _, by omega, by simp, N5.out.cat.toCL, A5.out, OK5.out, N5.out.eat E4.out, (b5.block _ HW6.out).trans M1.out, (b5.cell (p := ⟨q, 3 + n, none⟩) HQ.out).trans c1, B1.out.trans (b5.mono (Nat.le_of_lt HW6.out))⟩
          · have hge : 24 ≤ (tt : Int) := by omega
            go_wp2_with (first
              | (go_at_call 15; refine (cuntil0 C1.out O1.out A1.out.until_).mono ?_; rintro e w2 ⟨rfl, hb⟩; have B2 := Lib.hid hb; clear hb)
              | (go_at_call 10; refine (works_any _).mono ?_; rintro e w3 ⟨rfl, hb⟩; have B3 := Lib.hid hb; clear hb))
            go_ret
            exact retB rfl (B1.out.trans ((B2.out.trans (B3.out.mono B2.out.size)).mono B1.out.size))
end Go.Proofs.Ytcleaamjfjnkkaa
