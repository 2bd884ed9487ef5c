/- Of two choices: a voter is proposed an entry. -/
import Derived.Test.YtcleaamjfjnkkaaCl9
namespace Go.Proofs.Ytcleaamjfjnkkaa
open Go.RowKit Go.Joins

set_option maxRecDepth 100000 in
theorem fldT (w : World) (x y z : Value) : (Instr.field 26 (.agg #[x, y, z]) 0).run Try.prog w = .ok x w := by kernel_rfl
set_option linter.unusedSimpArgs false in
set_option linter.unusedVariables false in
set_option maxHeartbeats 8000000 in
set_option maxRecDepth 100000 in
theorem kstep_f0 {w : World} {base q : Nat} {V : Nat → VM} {l : LM} {ys : List RY} {k : Clu} {T : Int} (h : KAt w base q V l ys k) (inv : CInv T k) (hT : T ≤ 800000) (a b : Int) (ha : 0 ≤ a ∧ a ≤ 255) (hb : 0 ≤ b ∧ b ≤ 255) (hs : a % 16 = 10) :
    Calls Try.prog 19 #[.pointer (some ⟨q, 0, none⟩), .int .u8 a, .int .u8 b] w (Tup0 (KUpd base q V l (k.stepN a b) w)) := by
  have mixed : Try.prog.follows .mixedOrders = true := by kernel_rfl
  have hML : ys.length = k.net.length := by rw [← h.eq, List.length_map]
  obtain ⟨ha0, ha1⟩ := ha
  obtain ⟨hb0, hb1⟩ := hb
  have hstep : k.stepN a b = { k with co := upd k.co (b % 3).toNat ((k.co (b % 3).toNat).propose (0, 3, (k.co (b % 3).toNat).term, b + 1)).2 } := by
    unfold Clu.stepN; simp only
    rw [if_neg (by omega), if_neg (by omega), if_neg (by omega), if_neg (by omega), if_neg (by omega), if_pos (by omega)]
  have hc0 : (a % 16 == 0) = false := by simp; omega
  have hc1 : (a % 16 == 1) = false := by simp; omega
  have hc2 : (a % 16 == 2) = false := by simp; omega
  have hc3 : (a % 16 == 3) = false := by simp; omega
  have hc4 : (a % 16 == 4) = false := by simp; omega
  have hc5 : (a % 16 == 5) = false := by simp; omega
  have hc6 : (a % 16 == 6) = false := by simp; omega
  have hc7 : (a % 16 == 7) = false := by simp; omega
  have hc8 : (a % 16 == 8) = false := by simp; omega
  have hc9 : (a % 16 == 9) = false := by simp; omega
  have hc10 : (a % 16 == 10) = true := by simp; omega
  obtain ⟨n, hbn⟩ := Int.eq_ofNat_of_zero_le (show 0 ≤ b % 3 by omega)
  have hn : n < 3 := by omega
  have hnI : (n : Int) < 3 := by omega
  rw [hbn, Int.toNat_natCast] at hstep
  obtain ⟨na, nc, hnv, -, -⟩ := h.net.sli EY
  rw [hML] at hnv
  have g6 := (h.cells (n := 0) (by omega)).2.2.1
  rw [hnv] at g6
  have g1 := (h.cells hn).1
  unfold ptr at g1
  have hM200 : (k.net.length : Int) ≤ 200 := by have := inv.net; omega
  have hw0 : IntKind.u64.wrap b = b := by simp [IntKind.wrap, IntKind.signed, IntKind.bits]; omega
  have hw1 : IntKind.u64.wrap (b + 1) = b + 1 := by simp [IntKind.wrap, IntKind.signed, IntKind.bits]; omega
  have hf0 := fldT
  have HD := Lib.hid (fun W (hb : Below w.heap.size w W) => hard_any ((h.below hb).co n hn) (inv.ok n hn).log)
  have HP := Lib.hid (show ∀ W, Below w.heap.size w W → Calls Try.prog 25 #[.pointer (some ⟨(V n).p, 0, none⟩), .agg #[.int .u64 0, .int .i64 3, .int .u64 (k.co n).term, .int .u64 (b + 1)]] W (ProL base (V n).p (V n).lv (V n).ov (V n).tv ((k.co n).propose (0, 3, (k.co n).term, b + 1)) W) from fun W hb => proposeL_any (0, 3, (k.co n).term, b + 1) ((h.below hb).co n hn) (inv.ok n hn) ⟨(inv.ok n hn).term.1, by show 0 ≤ b + 1; omega⟩)
  have HS := Lib.hid hstep
  have HY := Lib.hid h
  have HN := Lib.hid hn
  clear h inv hT hML hstep hnv hn
  rename World => Y
  go_enter Try.func19, Try.ntmps19
  go_upto_region 31 with fail
  all_goals
    refine wp_region_noPanic ?_
    refine wp_region_lim (BelS Y) (fun i => decide (i < 19)) (fun i => false) (by kernel_rfl) (by kernel_rfl) (Below.refl _ Y).drew (fun HT hS0 => ?_)
    refine tkD HT 0 169 (v := ?_) ?_ ?_
    rotate_left
    · (intro w5 hSw; go_simp; (try with_reducible rfl))
    try simp only [s1, s2, s3]
    refine tkD HT 1 170 (v := ?_) ?_ ?_
    rotate_left
    · (intro w5 hSw; go_simp; (try with_reducible rfl))
    try simp only [s1, s2, s3]
    refine tkD HT 2 171 (v := ?_) ?_ ?_
    rotate_left
    · (intro w5 hSw; go_simp; (try with_reducible rfl))
    try simp only [s1, s2, s3]
    refine tkD HT 3 172 (v := ?_) ?_ ?_
    rotate_left
    · (intro w5 hSw; go_simp; (try with_reducible rfl))
    try simp only [s1, s2, s3]
    refine tkD HT 4 173 (v := ?_) ?_ ?_
    rotate_left
    · (intro w5 hSw; go_simp; (try with_reducible rfl))
    try simp only [s1, s2, s3]
    refine tkD HT 5 174 (v := ?_) ?_ ?_
    rotate_left
    · (intro w5 hSw; have q1 := keepc' g1 (show Below Y.heap.size Y w5 from hSw); go_simp; (try with_reducible rfl))
    try simp only [s1, s2, s3]
    refine tkD HT 6 175 (v := ?_) ?_ ?_
    rotate_left
    · (intro w5 hSw; go_simp; (try with_reducible rfl))
    try simp only [s1, s2, s3]
    refine tkD HT 7 176 (v := ?_) ?_ ?_
    rotate_left
    · (intro w5 hSw; go_simp; (try with_reducible rfl))
    try simp only [s1, s2, s3]
    refine tkD HT 8 177 (v := ?_) ?_ ?_
    rotate_left
    · (intro w5 hSw; go_simp; (try with_reducible rfl))
    try simp only [s1, s2, s3]
    refine tkD HT 9 178 (v := ?_) ?_ ?_
    rotate_left
    · (intro w5 hSw; go_simp; (try with_reducible rfl))
    try simp only [s1, s2, s3]
    refine tkD HT 10 179 (v := ?_) ?_ ?_
    rotate_left
    · (intro w5 hSw; go_simp; (try with_reducible rfl))
    try simp only [s1, s2, s3]
    refine tkD HT 11 180 (v := ?_) ?_ ?_
    rotate_left
    · (intro w5 hSw; have q1 := keepc' g1 (show Below Y.heap.size Y w5 from hSw); go_simp; (try with_reducible rfl))
    try simp only [s1, s2, s3]
    refine tkD HT 14 183 (v := ?_) ?_ ?_
    rotate_left
    · (intro w5 hSw; go_simp; (try with_reducible rfl))
    try simp only [s1, s2, s3]
    refine tkD HT 15 184 (v := ?_) ?_ ?_
    rotate_left
    · (intro w5 hSw; go_simp; (try with_reducible rfl))
    try simp only [s1, s2, s3]
    refine tkD HT 16 185 (v := ?_) ?_ ?_
    rotate_left
    · (intro w5 hSw; go_simp; (try with_reducible rfl))
    try simp only [s1, s2, s3]
    refine tkS 12 (fun K5 hK => ?_)
    go_simp
    go_at_call 12
    refine (HD.out _ (Below.refl _ Y).drew).mono ?_
    rintro e w6 ⟨ah, ch, rfl, -, hbh⟩
    have B6 := Lib.hid ((Below.refl _ Y).drew.trans (hbh.mono (show Y.heap.size ≤ Y.drew.heap.size from Nat.le_refl _)))
    clear hbh
    dsimp only
    refine hK.out _ _ B6.out (fun hS1 => ?_)
    clear hK K5
    try simp only [Act.put, s1, s2, s3]
    refine tkD HT 13 182 (v := ?_) ?_ ?_
    rotate_left
    · (intro w5 hSw; go_simp; (try with_reducible rfl))
    try simp only [s1, s2, s3]
    refine tkD HT 17 186 (v := ?_) ?_ ?_
    rotate_left
    · (intro w5 hSw; go_simp; (try with_reducible rfl))
    try simp only [s1, s2, s3]
    refine tkD HT 18 187 (v := ?_) ?_ ?_
    rotate_left
    · (intro w5 hSw; go_simp; (try with_reducible rfl))
    try simp only [s1, s2, s3]
    refine tkL 19 (fun K5 hK => ?_)
    go_simp
    go_at_call 25
    refine (HP.out _ B6.out).mono ?_
    rintro e w7 ⟨rfl, hU⟩
    have HU := Lib.hid hU
    clear hU
    dsimp only
    refine hK.out _ _ ?_
    clear hK K5
    try simp only [Act.put, s1, s2, s3]
    refine wpAnyM_done (by kernel_rfl) (NoPanic.normal ?_)
    go_wp2
    go_end0
    refine ⟨rfl, ?_⟩
    rw [HS.out]
    obtain ⟨lv', c1, c2, c3⟩ := HU.out
    obtain ⟨t1, t2, t3⟩ := (HY.out.below B6.out).turnL HN.out c1 c2 c3
    exact KUpd.then (Mod.bel B6.out) (fun b hb => .inl hb) ⟨_, _, _, t1, t2, t3⟩
set_option linter.unusedSimpArgs false in
set_option linter.unusedVariables false in
set_option maxHeartbeats 8000000 in
set_option maxRecDepth 100000 in
theorem kstep_f1 {w : World} {base q : Nat} {V : Nat → VM} {l : LM} {ys : List RY} {k : Clu} {T : Int} (h : KAt w base q V l ys k) (inv : CInv T k) (hT : T ≤ 800000) (a b : Int) (ha : 0 ≤ a ∧ a ≤ 255) (hb : 0 ≤ b ∧ b ≤ 255) (hs : a % 16 = 11) :
    Calls Try.prog 19 #[.pointer (some ⟨q, 0, none⟩), .int .u8 a, .int .u8 b] w (Tup0 (KUpd base q V l (k.stepN a b) w)) := by
  have mixed : Try.prog.follows .mixedOrders = true := by kernel_rfl
  have hML : ys.length = k.net.length := by rw [← h.eq, List.length_map]
  obtain ⟨ha0, ha1⟩ := ha
  obtain ⟨hb0, hb1⟩ := hb
  have hstep : k.stepN a b = { k with co := upd k.co (b % 3).toNat ((k.co (b % 3).toNat).propose (0, 3, (k.co (b % 3).toNat).term, b + 1)).2 } := by
    unfold Clu.stepN; simp only
    rw [if_neg (by omega), if_neg (by omega), if_neg (by omega), if_neg (by omega), if_neg (by omega), if_pos (by omega)]
  have hc0 : (a % 16 == 0) = false := by simp; omega
  have hc1 : (a % 16 == 1) = false := by simp; omega
  have hc2 : (a % 16 == 2) = false := by simp; omega
  have hc3 : (a % 16 == 3) = false := by simp; omega
  have hc4 : (a % 16 == 4) = false := by simp; omega
  have hc5 : (a % 16 == 5) = false := by simp; omega
  have hc6 : (a % 16 == 6) = false := by simp; omega
  have hc7 : (a % 16 == 7) = false := by simp; omega
  have hc8 : (a % 16 == 8) = false := by simp; omega
  have hc9 : (a % 16 == 9) = false := by simp; omega
  have hc10 : (a % 16 == 10) = false := by simp; omega
  have hc11 : (a % 16 == 11) = true := by simp; omega
  obtain ⟨n, hbn⟩ := Int.eq_ofNat_of_zero_le (show 0 ≤ b % 3 by omega)
  have hn : n < 3 := by omega
  have hnI : (n : Int) < 3 := by omega
  rw [hbn, Int.toNat_natCast] at hstep
  obtain ⟨na, nc, hnv, -, -⟩ := h.net.sli EY
  rw [hML] at hnv
  have g6 := (h.cells (n := 0) (by omega)).2.2.1
  rw [hnv] at g6
  have g1 := (h.cells hn).1
  unfold ptr at g1
  have hM200 : (k.net.length : Int) ≤ 200 := by have := inv.net; omega
  have hw0 : IntKind.u64.wrap b = b := by simp [IntKind.wrap, IntKind.signed, IntKind.bits]; omega
  have hw1 : IntKind.u64.wrap (b + 1) = b + 1 := by simp [IntKind.wrap, IntKind.signed, IntKind.bits]; omega
  have hf0 := fldT
  have HD := Lib.hid (fun W (hb : Below w.heap.size w W) => hard_any ((h.below hb).co n hn) (inv.ok n hn).log)
  have HP := Lib.hid (show ∀ W, Below w.heap.size w W → Calls Try.prog 25 #[.pointer (some ⟨(V n).p, 0, none⟩), .agg #[.int .u64 0, .int .i64 3, .int .u64 (k.co n).term, .int .u64 (b + 1)]] W (ProL base (V n).p (V n).lv (V n).ov (V n).tv ((k.co n).propose (0, 3, (k.co n).term, b + 1)) W) from fun W hb => proposeL_any (0, 3, (k.co n).term, b + 1) ((h.below hb).co n hn) (inv.ok n hn) ⟨(inv.ok n hn).term.1, by show 0 ≤ b + 1; omega⟩)
  have HS := Lib.hid hstep
  have HY := Lib.hid h
  have HN := Lib.hid hn
  clear h inv hT hML hstep hnv hn
  rename World => Y
  go_enter Try.func19, Try.ntmps19
  go_upto_region 31 with fail
  all_goals
    refine wp_region_noPanic ?_
    refine wp_region_lim (BelS Y) (fun i => decide (i < 19)) (fun i => false) (by kernel_rfl) (by kernel_rfl) (Below.refl _ Y).drew (fun HT hS0 => ?_)
    refine tkD HT 0 169 (v := ?_) ?_ ?_
    rotate_left
    · (intro w5 hSw; go_simp; (try with_reducible rfl))
    try simp only [s1, s2, s3]
    refine tkD HT 1 170 (v := ?_) ?_ ?_
    rotate_left
    · (intro w5 hSw; go_simp; (try with_reducible rfl))
    try simp only [s1, s2, s3]
    refine tkD HT 2 171 (v := ?_) ?_ ?_
    rotate_left
    · (intro w5 hSw; go_simp; (try with_reducible rfl))
    try simp only [s1, s2, s3]
    refine tkD HT 3 172 (v := ?_) ?_ ?_
    rotate_left
    · (intro w5 hSw; go_simp; (try with_reducible rfl))
    try simp only [s1, s2, s3]
    refine tkD HT 4 173 (v := ?_) ?_ ?_
    rotate_left
    · (intro w5 hSw; go_simp; (try with_reducible rfl))
    try simp only [s1, s2, s3]
    refine tkD HT 5 174 (v := ?_) ?_ ?_
    rotate_left
    · (intro w5 hSw; have q1 := keepc' g1 (show Below Y.heap.size Y w5 from hSw); go_simp; (try with_reducible rfl))
    try simp only [s1, s2, s3]
    refine tkD HT 6 175 (v := ?_) ?_ ?_
    rotate_left
    · (intro w5 hSw; go_simp; (try with_reducible rfl))
    try simp only [s1, s2, s3]
    refine tkD HT 7 176 (v := ?_) ?_ ?_
    rotate_left
    · (intro w5 hSw; go_simp; (try with_reducible rfl))
    try simp only [s1, s2, s3]
    refine tkD HT 8 177 (v := ?_) ?_ ?_
    rotate_left
    · (intro w5 hSw; go_simp; (try with_reducible rfl))
    try simp only [s1, s2, s3]
    refine tkD HT 9 178 (v := ?_) ?_ ?_
    rotate_left
    · (intro w5 hSw; go_simp; (try with_reducible rfl))
    try simp only [s1, s2, s3]
    refine tkD HT 10 179 (v := ?_) ?_ ?_
    rotate_left
    · (intro w5 hSw; go_simp; (try with_reducible rfl))
    try simp only [s1, s2, s3]
    refine tkD HT 11 180 (v := ?_) ?_ ?_
    rotate_left
    · (intro w5 hSw; have q1 := keepc' g1 (show Below Y.heap.size Y w5 from hSw); go_simp; (try with_reducible rfl))
    try simp only [s1, s2, s3]
    refine tkD HT 14 183 (v := ?_) ?_ ?_
    rotate_left
    · (intro w5 hSw; go_simp; (try with_reducible rfl))
    try simp only [s1, s2, s3]
    refine tkD HT 15 184 (v := ?_) ?_ ?_
    rotate_left
    · (intro w5 hSw; go_simp; (try with_reducible rfl))
    try simp only [s1, s2, s3]
    refine tkD HT 16 185 (v := ?_) ?_ ?_
    rotate_left
    · (intro w5 hSw; go_simp; (try with_reducible rfl))
    try simp only [s1, s2, s3]
    refine tkS 12 (fun K5 hK => ?_)
    go_simp
    go_at_call 12
    refine (HD.out _ (Below.refl _ Y).drew).mono ?_
    rintro e w6 ⟨ah, ch, rfl, -, hbh⟩
    have B6 := Lib.hid ((Below.refl _ Y).drew.trans (hbh.mono (show Y.heap.size ≤ Y.drew.heap.size from Nat.le_refl _)))
    clear hbh
    dsimp only
    refine hK.out _ _ B6.out (fun hS1 => ?_)
    clear hK K5
    try simp only [Act.put, s1, s2, s3]
    refine tkD HT 13 182 (v := ?_) ?_ ?_
    rotate_left
    · (intro w5 hSw; go_simp; (try with_reducible rfl))
    try simp only [s1, s2, s3]
    refine tkD HT 17 186 (v := ?_) ?_ ?_
    rotate_left
    · (intro w5 hSw; go_simp; (try with_reducible rfl))
    try simp only [s1, s2, s3]
    refine tkD HT 18 187 (v := ?_) ?_ ?_
    rotate_left
    · (intro w5 hSw; go_simp; (try with_reducible rfl))
    try simp only [s1, s2, s3]
    refine tkL 19 (fun K5 hK => ?_)
    go_simp
    go_at_call 25
    refine (HP.out _ B6.out).mono ?_
    rintro e w7 ⟨rfl, hU⟩
    have HU := Lib.hid hU
    clear hU
    dsimp only
    refine hK.out _ _ ?_
    clear hK K5
    try simp only [Act.put, s1, s2, s3]
    refine wpAnyM_done (by kernel_rfl) (NoPanic.normal ?_)
    go_wp2
    go_end0
    refine ⟨rfl, ?_⟩
    rw [HS.out]
    obtain ⟨lv', c1, c2, c3⟩ := HU.out
    obtain ⟨t1, t2, t3⟩ := (HY.out.below B6.out).turnL HN.out c1 c2 c3
    exact KUpd.then (Mod.bel B6.out) (fun b hb => .inl hb) ⟨_, _, _, t1, t2, t3⟩
end Go.Proofs.Ytcleaamjfjnkkaa
