/- Of two choices: a voter begins anew. -/
import Derived.Test.YtcleaamjfjnkkaaCl10
namespace Go.Proofs.Ytcleaamjfjnkkaa
open Go.RowKit Go.Joins

theorem KAt.fresh {w W : World} {base q : Nat} {V : Nat → VM} {l : LM} {ys : List RY} {k : Clu} (h : KAt w base q V l ys k) (hb : Below w.heap.size w W) {i : Nat} (hi : i < 3) {p : Nat} {lv' ov' tv' : Value} {c' : Co} (hC : CL W w.heap.size p lv' ov' tv' c') :
    W.heap[q]? = some (.cells (kA V l k) 62 (0, 0)) ∧ KAt (W.setCell ⟨q, i, none⟩ (ptr p)) base q (upd V i ⟨p, lv', ov', tv'⟩) l ys { k with co := upd k.co i c' } ∧ Mod (KF q V l) w (W.setCell ⟨q, i, none⟩ (ptr p)) ∧ ∀ b, KF q (upd V i ⟨p, lv', ov', tv'⟩) l b → KF q V l b ∨ w.heap.size ≤ b := by
  have kn := h.kin
  have hW := h.below hb
  have hq := h.lt q (.inl rfl)
  have hbase : base ≤ w.heap.size := by omega
  have hp := hC.lt.1
  have hg := hC.lt.2
  have hM : Mod (fun b => b = q) W (W.setCell ⟨q, i, none⟩ (ptr p)) := Mod.cellOf q _ _
  have hMK : Mod (KF q V l) w (W.setCell ⟨q, i, none⟩ (ptr p)) := (Mod.bel (S := KF q V l) hb).then hM (fun i _ e => .inl e)
  have hFf : ∀ b, KF q (upd V i ⟨p, lv', ov', tv'⟩) l b → KF q V l b ∨ w.heap.size ≤ b := by
    rintro b (e | ⟨j, hj, e⟩ | e)
    · exact .inl (.inl e)
    · by_cases hji : j = i
      · subst hji
        rw [upd_at] at e
        rcases e with e | e
        · exact .inr (by rw [e]; exact hp.1)
        · exact .inr (hg b e).1
      · rw [upd_ne _ _ hji] at e
        exact .inl (.inr (.inl ⟨j, hj, e⟩))
    · exact .inl (.inr (.inr e))
  refine ⟨hW.blk, ⟨?_, h.bp, fun j hj => ?_, fun a b ha hb' hab => ?_, fun j hj g hgj => ?_, hM.own hW.net (fun g hg e => kn.q1.1 (e ▸ hg)), h.eq, fun y hy => (h.ents y hy).mod hMK hFf, hM.own hW.led (fun g hg e => kn.q1.2.1 (e ▸ hg)), hM.own hW.byv (fun g hg e => kn.q1.2.2.1 (e ▸ hg)), hM.own hW.dn (fun g hg e => kn.q1.2.2.2 (e ▸ hg))⟩, hMK, hFf⟩
  · rw [setCell_blk hW.blk, show ptr p = ptr (⟨p, lv', ov', tv'⟩ : VM).p from rfl, kA_put V l k hi]; rfl
  · by_cases hji : j = i
    · subst hji
      simp only [upd_at]
      refine (CL.mod (⟨hC.blk, Nat.le_trans hbase hC.bp, OwnL.mono (enc := encE) hC.log hbase, hC.ghl⟩ : CL W base p lv' ov' tv' c') hM (fun e => by omega) (fun g hgg e => by have := (hg g hgg).1; omega))
    · simp only [upd_ne _ _ hji]
      exact (hW.co j hj).mod hM (fun e => (kn.qp j hj).1 e.symm) (fun g hg e => (kn.qp j hj).2 (e ▸ hg))
  · by_cases hai : a = i
    · have hbi : b ≠ i := fun e => hab (hai.trans e.symm)
      subst hai
      rw [upd_at, upd_ne _ _ hbi]
      exact ⟨fun e => by have := (h.co b hb').lt.1; change p = _ at e; omega, fun g hgg e => by have := ((h.co b hb').lt.2 g e).2; have := (hg g hgg).1; omega⟩
    · rw [upd_ne _ _ hai]
      by_cases hbi : b = i
      · subst hbi
        rw [upd_at]
        exact ⟨fun e => by have := (h.co a ha).lt.1; change _ = p at e; omega, fun g hgg e => by have := ((h.co a ha).lt.2 g hgg).2; have := (hg g e).1; omega⟩
      · rw [upd_ne _ _ hbi]
        exact h.apart a b ha hb' hab
  · by_cases hji : j = i
    · subst hji
      rw [upd_at] at hgj
      intro e
      have := (World.ownsRow.lt h.dn g e).2
      have := (hg g hgj).1
      omega
    · rw [upd_ne _ _ hji] at hgj
      exact h.dap j hj g hgj
set_option linter.unusedSimpArgs false in
set_option linter.unusedVariables false in
set_option maxHeartbeats 8000000 in
set_option maxRecDepth 100000 in
theorem kstep_e {w : World} {base q : Nat} {V : Nat → VM} {l : LM} {ys : List RY} {k : Clu} {T : Int} (h : KAt w base q V l ys k) (inv : CInv T k) (hT : T ≤ 800000) (a b : Int) (ha : 0 ≤ a ∧ a ≤ 255) (hb : 0 ≤ b ∧ b ≤ 255) (hs : a % 16 = 9) :
    Calls Try.prog 19 #[.pointer (some ⟨q, 0, none⟩), .int .u8 a, .int .u8 b] w (Tup0 (KUpd base q V l (k.stepN a b) w)) := by
  have mixed : Try.prog.follows .mixedOrders = true := by kernel_rfl
  have hML : ys.length = k.net.length := by rw [← h.eq, List.length_map]
  obtain ⟨ha0, ha1⟩ := ha
  obtain ⟨hb0, hb1⟩ := hb
  have hstep : k.stepN a b = { k with co := upd k.co (b % 3).toNat (k.anew (b % 3).toNat b) } := by
    unfold Clu.stepN; simp only
    rw [if_neg (by omega), if_neg (by omega), if_neg (by omega), if_neg (by omega), if_pos hs]
  have hc0 : (a % 16 == 0) = false := by simp; omega
  have hc1 : (a % 16 == 1) = false := by simp; omega
  have hc2 : (a % 16 == 2) = false := by simp; omega
  have hc3 : (a % 16 == 3) = false := by simp; omega
  have hc4 : (a % 16 == 4) = false := by simp; omega
  have hc5 : (a % 16 == 5) = false := by simp; omega
  have hc6 : (a % 16 == 6) = false := by simp; omega
  have hc7 : (a % 16 == 7) = false := by simp; omega
  have hc8 : (a % 16 == 8) = false := by simp; omega
  have hc9 : (a % 16 == 9) = true := by simp; omega
  obtain ⟨n, hbn⟩ := Int.eq_ofNat_of_zero_le (show 0 ≤ b % 3 by omega)
  have hn : n < 3 := by omega
  have hnI : (n : Int) < 3 := by omega
  rw [hbn, Int.toNat_natCast] at hstep
  obtain ⟨na, nc, hnv, -, -⟩ := h.net.sli EY
  rw [hML] at hnv
  have g6 := (h.cells (n := 0) (by omega)).2.2.1
  rw [hnv] at g6
  have g1 := (h.cells hn).1
  unfold ptr at g1
  have g3 := (h.cells hn).2.1
  have hM200 : (k.net.length : Int) ≤ 200 := by have := inv.net; omega
  have hw0 : IntKind.i64.wrap b = b := by simp [IntKind.wrap, IntKind.signed, IntKind.bits]; omega
  have HD := Lib.hid (fun W (hb : Below w.heap.size w W) => hard_any ((h.below hb).co n hn) (inv.ok n hn).log)
  have HNW := Lib.hid (show ∀ (W : World) (x : Option Addr) (cp : Nat), Sl W x cp (k.co n).log → Calls Try.prog 8 #[.int .i64 (n : Int), .agg #[.int .u64 (k.co n).term, .int .i64 (k.co n).voted, .slice x (k.co n).log.length cp], .int .i64 (k.clk n), .int .i64 b] W (NewP (k.anew n b) W) from fun W x cp hs => new_yes (n : Int) (k.co n).term (k.co n).voted (k.clk n) b x _ cp (k.co n).log rfl hs (Nat.le_trans (inv.ok n hn).log (by omega)) (inv.ok n hn).wf (i64c hb0 (by omega)) (inv.anew (by omega) hn b).1)
  have HS := Lib.hid hstep
  have HY := Lib.hid h
  have HN := Lib.hid hn
  clear h inv hT hML hstep hnv hn
  rename World => Y
  go_enter Try.func19, Try.ntmps19
  go_upto_region 28 with fail
  all_goals
    refine wp_region_noPanic ?_
    refine wp_region_lim (BelS Y) (fun i => decide (i < 22)) (fun i => false) (by kernel_rfl) (by kernel_rfl) (Below.refl _ Y).drew (fun HT hS0 => ?_)
    refine tkD HT 0 144 (v := ?_) ?_ ?_
    rotate_left
    · (intro w5 hSw; go_simp; (try with_reducible rfl))
    try simp only [s1, s2, s3]
    refine tkD HT 1 145 (v := ?_) ?_ ?_
    rotate_left
    · (intro w5 hSw; go_simp; (try with_reducible rfl))
    try simp only [s1, s2, s3]
    refine tkD HT 2 146 (v := ?_) ?_ ?_
    rotate_left
    · (intro w5 hSw; go_simp; (try with_reducible rfl))
    try simp only [s1, s2, s3]
    refine tkD HT 3 147 (v := ?_) ?_ ?_
    rotate_left
    · (intro w5 hSw; go_simp; (try with_reducible rfl))
    try simp only [s1, s2, s3]
    refine tkD HT 4 148 (v := ?_) ?_ ?_
    rotate_left
    · (intro w5 hSw; go_simp; (try with_reducible rfl))
    try simp only [s1, s2, s3]
    refine tkD HT 5 149 (v := ?_) ?_ ?_
    rotate_left
    · (intro w5 hSw; go_simp; (try with_reducible rfl))
    try simp only [s1, s2, s3]
    refine tkD HT 6 150 (v := ?_) ?_ ?_
    rotate_left
    · (intro w5 hSw; go_simp; (try with_reducible rfl))
    try simp only [s1, s2, s3]
    refine tkD HT 7 151 (v := ?_) ?_ ?_
    rotate_left
    · (intro w5 hSw; go_simp; (try with_reducible rfl))
    try simp only [s1, s2, s3]
    refine tkD HT 8 152 (v := ?_) ?_ ?_
    rotate_left
    · (intro w5 hSw; have q1 := keepc' g1 (show Below Y.heap.size Y w5 from hSw); go_simp; (try with_reducible rfl))
    try simp only [s1, s2, s3]
    refine tkD HT 10 154 (v := ?_) ?_ ?_
    rotate_left
    · (intro w5 hSw; go_simp; (try with_reducible rfl))
    try simp only [s1, s2, s3]
    refine tkD HT 11 155 (v := ?_) ?_ ?_
    rotate_left
    · (intro w5 hSw; go_simp; (try with_reducible rfl))
    try simp only [s1, s2, s3]
    refine tkD HT 12 156 (v := ?_) ?_ ?_
    rotate_left
    · (intro w5 hSw; go_simp; (try with_reducible rfl))
    try simp only [s1, s2, s3]
    refine tkD HT 13 157 (v := ?_) ?_ ?_
    rotate_left
    · (intro w5 hSw; go_simp; (try with_reducible rfl))
    try simp only [s1, s2, s3]
    refine tkD HT 14 158 (v := ?_) ?_ ?_
    rotate_left
    · (intro w5 hSw; go_simp; (try with_reducible rfl))
    try simp only [s1, s2, s3]
    refine tkD HT 15 159 (v := ?_) ?_ ?_
    rotate_left
    · (intro w5 hSw; have q1 := keepc' g3 (show Below Y.heap.size Y w5 from hSw); go_simp; (try with_reducible rfl))
    try simp only [s1, s2, s3]
    refine tkD HT 16 160 (v := ?_) ?_ ?_
    rotate_left
    · (intro w5 hSw; go_simp; (try with_reducible rfl))
    try simp only [s1, s2, s3]
    refine tkD HT 17 161 (v := ?_) ?_ ?_
    rotate_left
    · (intro w5 hSw; go_simp; (try with_reducible rfl))
    try simp only [s1, s2, s3]
    refine tkD HT 19 163 (v := ?_) ?_ ?_
    rotate_left
    · (intro w5 hSw; go_simp; (try with_reducible rfl))
    try simp only [s1, s2, s3]
    refine tkD HT 20 164 (v := ?_) ?_ ?_
    rotate_left
    · (intro w5 hSw; go_simp; (try with_reducible rfl))
    try simp only [s1, s2, s3]
    refine tkS 9 (fun K5 hK => ?_)
    go_simp
    go_at_call 12
    refine (HD.out _ (Below.refl _ Y).drew).mono ?_
    rintro e w6 ⟨ah, ch, rfl, hho, hbh⟩
    obtain ⟨la, lc, hv, hsl, -⟩ := own_sl hho
    simp at hv
    obtain ⟨rfl, -, rfl⟩ := hv
    have B6 := Lib.hid ((Below.refl _ Y).drew.trans (hbh.mono (show Y.heap.size ≤ Y.drew.heap.size from Nat.le_refl _)))
    have SL := Lib.hid hsl
    clear hbh hho hsl
    dsimp only
    refine hK.out _ _ B6.out (fun hS1 => ?_)
    clear hK K5
    try simp only [Act.put, s1, s2, s3]
    refine tkS 18 (fun K5 hK => ?_)
    go_simp
    go_at_call 8
    refine (HNW.out _ _ _ SL.out).mono ?_
    rintro e w7 ⟨p, lv, rfl, hC, hbh⟩
    have B7 := Lib.hid (B6.out.trans (hbh.mono B6.out.size))
    have C7 := Lib.hid ((⟨hC.blk, Nat.le_trans B6.out.size hC.bp, OwnL.mono (enc := encE) hC.log B6.out.size, hC.ghl⟩ : CL w7 Y.heap.size p lv NIL NIL _))
    clear hbh hC
    dsimp only
    refine hK.out _ _ B7.out (fun hS2 => ?_)
    clear hK K5
    try simp only [Act.put, s1, s2, s3]
    refine tkD HT 21 165 (v := ?_) ?_ ?_
    rotate_left
    · (intro w5 hSw; go_simp; (try with_reducible rfl))
    try simp only [s1, s2, s3]
    have FR := Lib.hid (HY.out.fresh B7.out HN.out C7.out)
    have z1 := keepc' g1 B7.out
    have z2 := (cell_of FR.out.1 n (kA_ptr V l k HN.out)).2
    refine tkL 22 (fun K5 hK => ?_)
    go_simp
    refine hK.out _ _ ?_
    clear hK K5
    try simp only [Act.put, s1, s2, s3]
    refine wpAnyM_done (by kernel_rfl) (NoPanic.normal ?_)
    have HG := Lib.hid FR.out.2
    clear FR z1 z2
    unfold ptr at HG
    generalize w7.setCell ⟨q, n, none⟩ (.pointer (some ⟨p, 0, none⟩)) = Z at *
    go_wp2
    go_end0
    refine ⟨rfl, ?_⟩
    rw [HS.out]
    exact ⟨_, _, _, HG.out.1, HG.out.2.1, HG.out.2.2⟩
end Go.Proofs.Ytcleaamjfjnkkaa
