/- ClC: small texts laid together. -/
import Derived.Test.YtcleaamjfjnkkaaCl11
/- Of two choices: some ticks of all; and all together. -/
namespace Go.Proofs.Ytcleaamjfjnkkaa
open Go.RowKit Go.Joins

theorem tick_on {w wr : World} {base q : Nat} {V : Nat → VM} {l : LM} {k : Clu} (hU : KUpd base q V l k w wr) (ok : KOk k) (n : Nat) (hn : n < 3) (d : Int) (hd : I64 d) :
    Calls Try.prog 49 #[.pointer (some ⟨q, 0, none⟩), .int .i64 (n : Int), .int .i64 d] wr (Tup0 (KUpd base q V l (k.tickN n d) w)) := by
  obtain ⟨V', l', ys', h1, h2, h3⟩ := hU
  have ht := ktick_any h1 ok (n : Int) d (by omega) (by omega) hd
  rw [Int.toNat_natCast] at ht
  refine ht.mono ?_
  rintro e w1 ⟨rfl, u⟩
  exact ⟨rfl, KUpd.then h2 h3 u⟩
set_option linter.unusedSimpArgs false in
set_option linter.unusedVariables false in
set_option maxHeartbeats 8000000 in
set_option maxRecDepth 100000 in
theorem kstep_a {w : World} {base q : Nat} {V : Nat → VM} {l : LM} {ys : List RY} {k : Clu} {T : Int} (h : KAt w base q V l ys k) (inv : CInv T k) (hT : T ≤ 800000) (a b : Int) (ha : 0 ≤ a ∧ a ≤ 255) (hb : 0 ≤ b ∧ b ≤ 255) (hs : a % 16 ≤ 5) :
    Calls Try.prog 19 #[.pointer (some ⟨q, 0, none⟩), .int .u8 a, .int .u8 b] w (Tup0 (KUpd base q V l (k.stepN a b) w)) := by
  have mixed : Try.prog.follows .mixedOrders = true := by kernel_rfl
  have hML : ys.length = k.net.length := by rw [← h.eq, List.length_map]
  obtain ⟨ha0, ha1⟩ := ha
  obtain ⟨hb0, hb1⟩ := hb
  obtain ⟨N, hN⟩ := Int.eq_ofNat_of_zero_le (show 0 ≤ (a / 16) % 4 + 1 by omega)
  obtain ⟨i, hbi⟩ := Int.eq_ofNat_of_zero_le (show 0 ≤ b % 3 by omega)
  have hstep : k.stepN a b = k.three i b N := by
    unfold Clu.stepN; simp only
    rw [if_pos hs, hN, hbi, Int.toNat_natCast, Int.toNat_natCast]
  have hi : i < 3 := by omega
  have hiI : (i : Int) ≤ 2 := by omega
  obtain ⟨j1, hj1⟩ : ∃ j, j = (i + 1) % 3 := ⟨_, rfl⟩
  obtain ⟨j2, hj2⟩ : ∃ j, j = (i + 2) % 3 := ⟨_, rfl⟩
  have hx1 : ((i : Int) + 1) % 3 = (j1 : Int) := by omega
  have hx2 : ((i : Int) + 2) % 3 = (j2 : Int) := by omega
  have hy1 : IntKind.i64.wrap ((i : Int) + 1) = (i : Int) + 1 := by simp [IntKind.wrap, IntKind.signed, IntKind.bits]; omega
  have hy2 : IntKind.i64.wrap ((i : Int) + 2) = (i : Int) + 2 := by simp [IntKind.wrap, IntKind.signed, IntKind.bits]; omega
  have hq2 : 0 ≤ b / 2 := by omega
  have hq3 : b / 2 ≤ 127 := by omega
  have hq4 : 0 ≤ b / 4 := by omega
  have hq5 : b / 4 ≤ 63 := by omega
  have hq6 : 0 ≤ a / 16 := by omega
  have hq7 : a / 16 ≤ 15 := by omega
  have hN4 : N ≤ 4 := by omega
  have HNN := Lib.hid hN
  have HJ := Lib.hid (show j1 < 3 ∧ j2 < 3 ∧ i < 3 ∧ j1 = (i + 1) % 3 ∧ j2 = (i + 2) % 3 from ⟨by omega, by omega, hi, hj1, hj2⟩)
  have HO1 := Lib.hid (fun t (ht : t < N) => ((inv.three hi b t (by omega)).ms (by omega)).toKOk)
  have HO2 := Lib.hid (fun t (ht : t < N) => (((inv.three hi b t (by omega)).tick (by omega) hi b).ms (by omega)).toKOk)
  have HO3 := Lib.hid (fun t (ht : t < N) => ((((inv.three hi b t (by omega)).tick (by omega) hi b).tick (by omega) (i := (i + 1) % 3) (by omega) (b / 2)).ms (by omega)).toKOk)
  have HDR := Lib.hid (show I64 b ∧ I64 (b / 2) ∧ I64 (b / 4) from ⟨i64c (by omega) (by omega), i64c (by omega) (by omega), i64c (by omega) (by omega)⟩)
  obtain ⟨na, nc, hnv, -, -⟩ := h.net.sli EY
  rw [hML] at hnv
  have g6 := (h.cells (n := 0) (by omega)).2.2.1
  rw [hnv] at g6
  have hM200 : (k.net.length : Int) ≤ 200 := by have := inv.net; omega
  have HS := Lib.hid hstep
  have HH := Lib.hid h
  have hs6 : a % 16 = 0 ∨ a % 16 = 1 ∨ a % 16 = 2 ∨ a % 16 = 3 ∨ a % 16 = 4 ∨ a % 16 = 5 := by omega
  clear h inv hT hML hstep hnv hs hj1 hj2 hi hN
  rcases hs6 with e | e | e | e | e | e
  all_goals
    go_enter Try.func19, Try.ntmps19
    go_wp2
    all_goals
      rename_i hz
      try simp only [hbi, e, hz, decide_true, decide_false]
      go_loopg [8] N (fun gk u wr => ∃ t : Nat, t + gk = N ∧ u = .int .i64 (t : Int) ∧ KUpd base q V l (k.three i b t) w wr)
      case atStart => exact ⟨0, by omega, rfl, HH.out.stay (Below.refl _ _)⟩
      case round =>
        obtain ⟨t, htk, rfl, hU⟩ := hrel
        have U0 := Lib.hid hU
        clear hU
        by_cases hlt : t < N
        · have hli : (t : Int) < a / 16 % 4 + 1 := by have := HNN.out; omega
          have ht4 : (t : Int) ≤ 3 := by omega
          have T1 := Lib.hid (tick_on U0.out (HO1.out t hlt) i HJ.out.2.2.1 b HDR.out.1)
          have T2 := Lib.hid (fun W (hU : KUpd base q V l ((k.three i b t).tickN i b) w W) => tick_on hU (HO2.out t hlt) j1 HJ.out.1 (b / 2) HDR.out.2.1)
          have T3 := Lib.hid (fun W (hU : KUpd base q V l (((k.three i b t).tickN i b).tickN j1 (b / 2)) w W) => tick_on hU (by rw [HJ.out.2.2.2.1]; exact HO3.out t hlt) j2 HJ.out.2.1 (b / 4) HDR.out.2.2)
          go_upto_region 17 with (go_at_call 49; refine T1.out.mono ?_; rintro e w1 ⟨rfl, hU⟩; have U1 := Lib.hid hU; clear hU)
          go_upto_region 18 with (go_at_call 49; refine (T2.out _ U1.out).mono ?_; rintro e w2 ⟨rfl, hU⟩; have U2 := Lib.hid hU; clear hU)
          go_wp2_with (go_at_call 49; refine (T3.out _ U2.out).mono ?_; rintro e w3 ⟨rfl, hU⟩; have U3 := Lib.hid hU; clear hU)
          go_roundg (gk - 1)
          case measure => omega
          case rel => exact ⟨t + 1, by omega, by simp, by have h3 := U3.out; rw [HJ.out.2.2.2.1, HJ.out.2.2.2.2] at h3; exact h3⟩
        · obtain rfl : t = N := by omega
          have hli : a / 16 % 4 + 1 ≤ (t : Int) := by have := HNN.out; omega
          go_wp2
          go_end0
          exact ⟨rfl, by rw [HS.out]; exact U0.out⟩
theorem kstep_any {w : World} {base q : Nat} {V : Nat → VM} {l : LM} {ys : List RY} {k : Clu} {T : Int} (h : KAt w base q V l ys k) (inv : CInv T k) (hT : T ≤ 800000) (a b : Int) (ha : 0 ≤ a ∧ a ≤ 255) (hb : 0 ≤ b ∧ b ≤ 255) :
    Calls Try.prog 19 #[.pointer (some ⟨q, 0, none⟩), .int .u8 a, .int .u8 b] w (Tup0 (KUpd base q V l (k.stepN a b) w)) := by
  have h0 : a % 16 ≤ 5 ∨ a % 16 = 6 ∨ a % 16 = 7 ∨ a % 16 = 8 ∨ a % 16 = 9 ∨ a % 16 = 10 ∨ a % 16 = 11 ∨ 12 ≤ a % 16 := by omega
  have hn : k.net.length = 0 ∨ 0 < k.net.length := by omega
  rcases h0 with e | e | e | e | e | e | e | e
  · exact kstep_a h inv hT a b ha hb e
  · rcases hn with n | n
    · exact kstep_b0 h inv hT a b ha hb e n
    · exact kstep_b1 h inv hT a b ha hb e n
  · rcases hn with n | n
    · exact kstep_c0 h inv hT a b ha hb e n
    · exact kstep_c1 h inv hT a b ha hb e n
  · rcases hn with n | n
    · exact kstep_d0 h inv hT a b ha hb e n
    · by_cases n2 : k.net.length < 200
      · exact kstep_d1 h inv hT a b ha hb e n n2
      · exact kstep_d2 h inv hT a b ha hb e (by omega)
  · exact kstep_e h inv hT a b ha hb e
  · exact kstep_f0 h inv hT a b ha hb e
  · exact kstep_f1 h inv hT a b ha hb e
  · rcases hn with n | n
    · exact kstep_g0 h inv hT a b ha hb e n
    · exact kstep_g1 h inv hT a b ha hb e n
/-- .. as a step of a run. -/
theorem kstep_on {w wr : World} {base q : Nat} {V : Nat → VM} {l : LM} {k : Clu} {T : Int} (hU : KUpd base q V l k w wr) (inv : CInv T k) (hT : T ≤ 800000) (a b : Int) (ha : 0 ≤ a ∧ a ≤ 255) (hb : 0 ≤ b ∧ b ≤ 255) :
    Calls Try.prog 19 #[.pointer (some ⟨q, 0, none⟩), .int .u8 a, .int .u8 b] wr (Tup0 (KUpd base q V l (k.stepN a b) w)) := by
  obtain ⟨V', l', ys', h1, h2, h3⟩ := hU
  refine (kstep_any h1 inv hT a b ha hb).mono ?_
  rintro e w1 ⟨rfl, u⟩
  exact ⟨rfl, KUpd.then h2 h3 u⟩
end Go.Proofs.Ytcleaamjfjnkkaa
/- Three voters are gathered. -/
namespace Go.Proofs.Ytcleaamjfjnkkaa
open Go.RowKit Go.Joins

def gA (V : Nat → VM) (i : Nat) : Array Value := #[if 0 < i then ptr (V 0).p else .pointer none, if 1 < i then ptr (V 1).p else .pointer none, if 2 < i then ptr (V 2).p else .pointer none, .int .i64 0, .int .i64 0, .int .i64 0, NIL, NIL, NIL, NIL, .bool false]
theorem gA_put (V : Nat → VM) {i : Nat} (h : i < 3) (x : VM) : (gA V i).setIfInBounds i (ptr x.p) = gA (upd V i x) (i + 1) := by
  obtain rfl | rfl | rfl : i = 0 ∨ i = 1 ∨ i = 2 := by omega
  all_goals rfl
theorem gA_nil (V : Nat → VM) {i : Nat} (h : i < 3) : (gA V i)[i]? = some (.pointer none) := by
  obtain rfl | rfl | rfl : i = 0 ∨ i = 1 ∨ i = 2 := by omega
  all_goals rfl
theorem gA_at (V : Nat → VM) {i : Nat} (h : i < 3) : (gA V (i + 1))[i]? = some (ptr (V i).p) := by
  obtain rfl | rfl | rfl : i = 0 ∨ i = 1 ∨ i = 2 := by omega
  all_goals rfl
/-- some of three voters are there. -/
structure GatS (w0 : World) (q : Nat) (V : Nat → VM) (i : Nat) (wr : World) : Prop where
  blk : wr.heap[q]? = some (.cells (gA V i) 62 (0, 0))
  qb : w0.heap.size ≤ q
  co : ∀ j, j < i → CL wr w0.heap.size (V j).p (V j).lv (V j).ov (V j).tv (clu0.co j)
  apart : ∀ a b, a < i → b < i → a ≠ b → (V a).p ≠ (V b).p ∧ ∀ g, (V a).lv.ownBlock = some g → (V b).lv.ownBlock ≠ some g
  qn : ∀ j, j < i → (V j).p ≠ q ∧ (V j).lv.ownBlock ≠ some q
  bel : Below w0.heap.size w0 wr
theorem GatS.next {w0 wr W : World} {q : Nat} {V : Nat → VM} {i : Nat} (h : GatS w0 q V i wr) (hi : i < 3) (hb : Below wr.heap.size wr W) {p : Nat} {lv : Value} (hC : CL W wr.heap.size p lv NIL NIL (clu0.co i)) : GatS w0 q (upd V i ⟨p, lv, NIL, NIL⟩) (i + 1) (W.setCell ⟨q, i, none⟩ (ptr p)) := by
  have hM : Mod (fun b => b = q) W (W.setCell ⟨q, i, none⟩ (ptr p)) := Mod.cellOf q _ _
  have hq := blk_lt h.blk
  have hbase := h.bel.size
  have hp := hC.lt.1
  have hg := hC.lt.2
  have hW := blk_below h.blk hb
  refine ⟨?_, h.qb, fun j hj => ?_, fun a b ha hb' hab => ?_, fun j hj => ?_, ?_⟩
  · rw [setCell_blk hW, show ptr p = ptr (⟨p, lv, NIL, NIL⟩ : VM).p from rfl, gA_put V hi]
  · by_cases hji : j = i
    · subst hji
      simp only [upd_at]
      exact CL.mod (⟨hC.blk, Nat.le_trans hbase hC.bp, OwnL.mono (enc := encE) hC.log hbase, hC.ghl⟩ : CL W w0.heap.size p lv NIL NIL (clu0.co j)) hM (fun e => by omega) (fun g hgg e => by have := (hg g hgg).1; omega)
    · simp only [upd_ne _ _ hji]
      have hj' : j < i := by omega
      exact ((h.co j hj').below hb).mod hM (h.qn j hj').1 (fun g hgg e => (h.qn j hj').2 (e ▸ hgg))
  · by_cases hai : a = i
    · have hbi : b ≠ i := fun e => hab (hai.trans e.symm)
      subst hai
      rw [upd_at, upd_ne _ _ hbi]
      have hcb := h.co b (by omega)
      exact ⟨fun e => by have := hcb.lt.1; change p = _ at e; omega, fun g hgg e => by have := (hcb.lt.2 g e).2; have := (hg g hgg).1; omega⟩
    · rw [upd_ne _ _ hai]
      have hca := h.co a (by omega)
      by_cases hbi : b = i
      · subst hbi
        rw [upd_at]
        exact ⟨fun e => by have := hca.lt.1; change _ = p at e; omega, fun g hgg e => by have := (hca.lt.2 g hgg).2; have := (hg g e).1; omega⟩
      · rw [upd_ne _ _ hbi]
        exact h.apart a b (by omega) (by omega) hab
  · by_cases hji : j = i
    · subst hji
      rw [upd_at]
      exact ⟨fun e => by change p = q at e; omega, fun e => by have := (hg q e).1; omega⟩
    · rw [upd_ne _ _ hji]
      exact h.qn j (by omega)
  · refine (h.bel.trans (hb.mono hbase)).trans ?_
    exact hM.below (Nat.le_trans hbase hb.size) (fun b e => by rw [e]; exact h.qb)
def lm0 : LM := ⟨NIL, NIL, NIL, NIL⟩
theorem GatS.all {w0 wr : World} {q : Nat} {V : Nat → VM} (h : GatS w0 q V 3 wr) : KAt wr w0.heap.size q V lm0 [] clu0 :=
  ⟨h.blk, h.qb, h.co, h.apart, (fun i _ g _ e => by cases e), ownL_nil _ _, rfl, (fun y hy => by cases hy), ownL_nil _ _, ownL_nil _ _, ownL_nil _ _⟩
def GathP (w : World) (e : Ending) (w' : World) : Prop := ∃ q V, e = .returned (.pointer (some ⟨q, 0, none⟩)) ∧ KAt w' w.heap.size q V lm0 [] clu0 ∧ Below w.heap.size w w'
set_option linter.unusedSimpArgs false in
set_option linter.unusedVariables false in
set_option maxHeartbeats 8000000 in
set_option maxRecDepth 100000 in
theorem gathered_any (w : World) : Calls Try.prog 18 #[] w (GathP w) := by
  have mixed : Try.prog.follows .mixedOrders = true := by kernel_rfl
  go_enter Try.func18, Try.ntmps18
  go_wp2
  have HS0 := Lib.hid (show GatS w w.heap.size (fun _ => ⟨0, NIL, NIL, NIL⟩) 0 (w.alloc (.cells #[.pointer none, .pointer none, .pointer none, .int .i64 0, .int .i64 0, .int .i64 0, .slice none 0 0, .slice none 0 0, .slice none 0 0, .slice none 0 0, .bool false] 62)) from
    ⟨heap_alloc_new w _, Nat.le_refl _, fun j hj => absurd hj (Nat.not_lt_zero _), fun a b ha => absurd ha (Nat.not_lt_zero _), fun j hj => absurd hj (Nat.not_lt_zero _), bel1 w _⟩)
  generalize hq : w.heap.size = q at HS0 ⊢
  have HQ := Lib.hid hq
  clear hq
  go_loopg [2] 3 (fun gk u wr => ∃ (i : Nat) (V : Nat → VM), i + gk = 3 ∧ u = .int .i64 (i : Int) ∧ GatS w q V i wr)
  case atStart => exact ⟨0, _, rfl, rfl, HS0.out⟩
  case round =>
    obtain ⟨i, V, hik, rfl, hg⟩ := hrel
    have HG := Lib.hid hg
    clear hg HS0
    by_cases hlt : i < 3
    · have HI := Lib.hid hlt
      have hiI : (i : Int) < 3 := by omega
      have hi2 : (i : Int) ≤ 2 := by omega
      have hw0 : IntKind.i64.wrap (5 * (i : Int)) = 5 * (i : Int) := by simp [IntKind.wrap, IntKind.signed, IntKind.bits]; omega
      have hok : newOk (i : Int) 0 (-1) [] = true := by
        obtain rfl | rfl | rfl : i = 0 ∨ i = 1 ∨ i = 2 := by omega
        all_goals decide
      have HNW := Lib.hid (show ∀ W : World, Calls Try.prog 8 #[.int .i64 (i : Int), .agg #[.int .u64 0, .int .i64 (-1), .slice none 0 0], .int .i64 0, .int .i64 (5 * (i : Int))] W (NewP (clu0.co i) W) from fun W => new_yes (i : Int) 0 (-1) 0 (5 * (i : Int)) none 0 0 [] rfl ⟨fun j hj => absurd hj (Nat.not_lt_zero _), fun _ => rfl, Nat.le_refl _, by unfold maxLen; omega, fun a e => by cases e⟩ (Nat.zero_le _) (fun j hj => absurd hj (Nat.not_lt_zero _)) (i64c (by omega) (by omega)) hok)
      clear hok hlt
      go_upto_region 5 with fail
      refine wp_region_noPanic ?_
      refine wp_region_lim (BelS wr) (fun i => decide (i < 10)) (fun i => false) (by kernel_rfl) (by kernel_rfl) (Below.refl _ wr).drew (fun HT hS0 => ?_)
      refine tkD HT 0 9 (v := ?_) ?_ ?_
      rotate_left
      · (intro w5 hSw; go_simp; (try with_reducible rfl))
      try simp only [s1, s2, s3]
      refine tkD HT 1 10 (v := ?_) ?_ ?_
      rotate_left
      · (intro w5 hSw; go_simp; (try with_reducible rfl))
      try simp only [s1, s2, s3]
      refine tkD HT 2 11 (v := ?_) ?_ ?_
      rotate_left
      · (intro w5 hSw; go_simp; (try with_reducible rfl))
      try simp only [s1, s2, s3]
      refine tkD HT 3 12 (v := ?_) ?_ ?_
      rotate_left
      · (intro w5 hSw; go_simp; (try with_reducible rfl))
      try simp only [s1, s2, s3]
      refine tkD HT 4 13 (v := ?_) ?_ ?_
      rotate_left
      · (intro w5 hSw; go_simp; (try with_reducible rfl))
      try simp only [s1, s2, s3]
      refine tkD HT 5 14 (v := ?_) ?_ ?_
      rotate_left
      · (intro w5 hSw; go_simp; (try with_reducible rfl))
      try simp only [s1, s2, s3]
      refine tkD HT 7 16 (v := ?_) ?_ ?_
      rotate_left
      · (intro w5 hSw; go_simp; (try with_reducible rfl))
      try simp only [s1, s2, s3]
      refine tkD HT 8 17 (v := ?_) ?_ ?_
      rotate_left
      · (intro w5 hSw; go_simp; (try with_reducible rfl))
      try simp only [s1, s2, s3]
      refine tkS 6 (fun K5 hK => ?_)
      go_simp
      go_at_call 8
      refine (HNW.out _).mono ?_
      rintro e w7 ⟨p, lv, rfl, hC, hbh⟩
      have B7 := Lib.hid ((Below.refl _ wr).drew.trans (hbh.mono (show wr.heap.size ≤ wr.drew.heap.size from Nat.le_refl _)))
      have C7 := Lib.hid hC
      clear hbh hC
      dsimp only
      refine hK.out _ _ B7.out (fun hS1 => ?_)
      clear hK K5
      try simp only [Act.put, s1, s2, s3]
      refine tkD HT 9 18 (v := ?_) ?_ ?_
      rotate_left
      · (intro w5 hSw; go_simp; (try with_reducible rfl))
      try simp only [s1, s2, s3]
      have GN := Lib.hid (HG.out.next HI.out B7.out C7.out)
      have z1 := (cell_of (blk_below HG.out.blk B7.out) i (gA_nil V HI.out)).1
      have z2 := (cell_of (blk_below HG.out.blk B7.out) i (gA_nil V HI.out)).2
      refine tkL 10 (fun K5 hK => ?_)
      go_simp
      refine hK.out _ _ ?_
      clear hK K5
      try simp only [Act.put, s1, s2, s3]
      refine wpAnyM_done (by kernel_rfl) (NoPanic.normal ?_)
      have HN2 := Lib.hid GN.out
      have q1 := (cell_of GN.out.blk i (gA_at _ HI.out)).1
      rw [upd_at] at q1
      unfold ptr at q1 HN2
      clear GN z1 z2 hS0 hS1 HT
      generalize w7.setCell ⟨q, i, none⟩ (.pointer (some ⟨p, 0, none⟩)) = Z at *
      go_wp2
      go_roundg (gk - 1)
      case measure => omega
      case rel => exact ⟨i + 1, _, by omega, by simp, HN2.out⟩
    · obtain rfl : i = 3 := by omega
      go_wp2
      go_ret
      exact ⟨q, V, rfl, HG.out.all, HG.out.bel⟩
end Go.Proofs.Ytcleaamjfjnkkaa
/- A voter that begins anew waits: in plain words. -/
namespace Go.Proofs.Ytcleaamjfjnkkaa
open Go.RowKit Go.Joins

/-- it was made at this clock, and nothing came to it since then. -/
structure Anew (i : Nat) (z : Int) (c : Co) : Prop where
  me : c.me = (i : Int)
  role : c.role = 0
  heard : c.heard = z
  since : c.since = z
  timeout : c.timeout = timeoutS 0
theorem Anew.new (i : Nat) (term voted : Int) (log : List Ent) (z : Int) : Anew i z (newC i term voted log z 0) := ⟨rfl, rfl, rfl, rfl, rfl⟩
theorem Anew.begin {i : Nat} {z : Int} {c : Co} (h : Anew i z c) (n : Int) : Anew i z (c.begin n) := ⟨h.me, h.role, h.heard, h.since, h.timeout⟩
theorem Anew.send {i : Nat} {z : Int} {c : Co} (h : Anew i z c) (f : Int) (m : Mg) : Anew i z (c.send f m) := ⟨h.me, h.role, h.heard, h.since, h.timeout⟩
theorem Anew.waits {i : Nat} {z t : Int} {c : Co} (h : Anew i z c) (ht : t < 24) : waitsS c.heard (z + t) = true := by
  rw [h.heard]; simp only [waitsS, Bool.or_eq_true, decide_eq_true_eq]; omega
theorem Anew.tick {i : Nat} {z t : Int} {c : Co} (h : Anew i z c) (ht : t < 24) : c.tick (z + t) 0 = c.begin (z + t) := by
  have hw := (h.begin (z + t)).waits ht
  unfold Co.tick
  simp only
  rw [if_neg (show ¬ (c.begin (z + t)).role = 2 by rw [(h.begin (z + t)).role]; decide), hw]
  simp
theorem Anew.asked {i : Nat} {z t : Int} {c : Co} (h : Anew i z c) (ht : t < 24) {f : Int} (hf0 : 0 ≤ f) (hf3 : f < 3) (hfi : f ≠ (i : Int)) {m : Mg} (hm : m.kind = 1) : c.handle f m (z + t) 0 = (c.begin (z + t)).send f (mg0 2) := by
  have hw := (h.begin (z + t)).waits ht
  unfold Co.handle
  simp only
  rw [if_neg (show ¬ (f < 0 ∨ 3 ≤ f ∨ f = (c.begin (z + t)).me) by rw [(h.begin (z + t)).me]; omega), if_pos hm]
  unfold Co.ask
  rw [if_pos (show (waitsS (c.begin (z + t)).heard (c.begin (z + t)).now || _) = true by
    rw [show (c.begin (z + t)).now = z + t from rfl, hw]; rfl)]
theorem Anew.until_ {i : Nat} {z : Int} {c : Co} (h : Anew i z c) : c.until_ = 0 := by
  unfold Co.until_
  rw [if_neg (by rw [h.role]; decide)]
end Go.Proofs.Ytcleaamjfjnkkaa
