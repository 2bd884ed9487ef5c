/- Of two choices: a message is lost. -/
import Derived.Test.YtcleaamjfjnkkaaCl7
namespace Go.Proofs.Ytcleaamjfjnkkaa
open Go.RowKit Go.Joins

set_option linter.unusedSimpArgs false in
set_option linter.unusedVariables false in
set_option maxHeartbeats 8000000 in
set_option maxRecDepth 100000 in
theorem kstep_c0 {w : World} {base q : Nat} {V : Nat → VM} {l : LM} {ys : List RY} {k : Clu} {T : Int} (h : KAt w base q V l ys k) (inv : CInv T k) (hT : T ≤ 800000) (a b : Int) (ha : 0 ≤ a ∧ a ≤ 255) (hb : 0 ≤ b ∧ b ≤ 255) (hs : a % 16 = 7) (h0 : k.net.length = 0) :
    Calls Try.prog 19 #[.pointer (some ⟨q, 0, none⟩), .int .u8 a, .int .u8 b] w (Tup0 (KUpd base q V l (k.stepN a b) w)) := by
  have mixed : Try.prog.follows .mixedOrders = true := by kernel_rfl
  have hML : ys.length = k.net.length := by rw [← h.eq, List.length_map]
  obtain ⟨na, nc, hnv, -, -⟩ := h.net.sli EY
  rw [hML] at hnv
  have g6 := (h.cells (n := 0) (by omega)).2.2.1
  rw [hnv] at g6
  have HN := Lib.hid hnv
  have HML := Lib.hid hML
  have HH := Lib.hid h
  have HI := Lib.hid inv
  have HTT := Lib.hid hT
  obtain ⟨ha0, ha1⟩ := ha
  obtain ⟨hb0, hb1⟩ := hb
  have hM200 : (k.net.length : Int) ≤ 200 := by have := inv.net; omega
  have hc0 : (a % 16 == 0) = false := by simp; omega
  have hc1 : (a % 16 == 1) = false := by simp; omega
  have hc2 : (a % 16 == 2) = false := by simp; omega
  have hc3 : (a % 16 == 3) = false := by simp; omega
  have hc4 : (a % 16 == 4) = false := by simp; omega
  have hc5 : (a % 16 == 5) = false := by simp; omega
  have hc6 : (a % 16 == 6) = false := by simp; omega
  have hc7 : (a % 16 == 7) = true := by simp; omega
  have hstep : k.stepN a b = k := by
    unfold Clu.stepN; simp only
    rw [if_neg (by omega), if_neg (by omega), if_pos hs, if_neg (by omega)]
  have HS := Lib.hid hstep
  rw [h0] at g6
  clear inv hT hML hnv hs hstep h0 hM200 h
  go_enter Try.func19, Try.ntmps19
  go_wp2
  go_end0
  exact ⟨rfl, by rw [HS.out]; exact HH.out.stay (Below.refl _ _)⟩
set_option linter.unusedSimpArgs false in
set_option linter.unusedVariables false in
set_option maxHeartbeats 8000000 in
set_option maxRecDepth 100000 in
theorem kstep_c1 {w : World} {base q : Nat} {V : Nat → VM} {l : LM} {ys : List RY} {k : Clu} {T : Int} (h : KAt w base q V l ys k) (inv : CInv T k) (hT : T ≤ 800000) (a b : Int) (ha : 0 ≤ a ∧ a ≤ 255) (hb : 0 ≤ b ∧ b ≤ 255) (hs : a % 16 = 7) (h0 : 0 < k.net.length) :
    Calls Try.prog 19 #[.pointer (some ⟨q, 0, none⟩), .int .u8 a, .int .u8 b] w (Tup0 (KUpd base q V l (k.stepN a b) w)) := by
  have mixed : Try.prog.follows .mixedOrders = true := by kernel_rfl
  have hML : ys.length = k.net.length := by rw [← h.eq, List.length_map]
  obtain ⟨ha0, ha1⟩ := ha
  obtain ⟨hb0, hb1⟩ := hb
  have h0i : 0 < (k.net.length : Int) := by omega
  have he0 := Int.emod_nonneg b (show (k.net.length : Int) ≠ 0 by omega)
  have he1 := Int.emod_lt_of_pos b h0i
  have hstep : k.stepN a b = { k with net := k.net.eraseIdx (b % (k.net.length : Int)).toNat } := by
    unfold Clu.stepN; simp only
    rw [if_neg (by omega), if_neg (by omega), if_pos hs, if_pos h0, if_pos h0]
  have hc0 : (a % 16 == 0) = false := by simp; omega
  have hc1 : (a % 16 == 1) = false := by simp; omega
  have hc2 : (a % 16 == 2) = false := by simp; omega
  have hc3 : (a % 16 == 3) = false := by simp; omega
  have hc4 : (a % 16 == 4) = false := by simp; omega
  have hc5 : (a % 16 == 5) = false := by simp; omega
  have hc6 : (a % 16 == 6) = false := by simp; omega
  have hc7 : (a % 16 == 7) = true := by simp; omega
  obtain ⟨i, hbm⟩ := Int.eq_ofNat_of_zero_le he0
  rw [hbm, Int.toNat_natCast] at hstep
  have hi : i < ys.length := by omega
  obtain ⟨g, cap, hnv, hlc, hcm, -, ht1, A, hA, ht2⟩ := h.take_at hi
  have g6 := (h.cells (n := 0) (by omega)).2.2.1
  rw [hnv] at g6
  have HER := Lib.hid (show (ys.take i ++ ys.drop (i + 1)).map RY.f = k.net.eraseIdx i by rw [List.map_append, List.map_take, List.map_drop, h.eq, ← List.eraseIdx_eq_take_drop_succ])
  have HCU := Lib.hid (show ∀ y ∈ ys.take i ++ ys.drop (i + 1), EAt w (KF q V l) y.x from fun y hy => h.ents y ((List.mem_append.1 hy).elim List.mem_of_mem_take List.mem_of_mem_drop))
  have hnet := inv.net
  rw [← hML] at hbm he1 h0i hnet
  obtain ⟨M, hM⟩ : ∃ M, M = ys.length := ⟨_, rfl⟩
  rw [← hM] at g6 hbm he1 h0i
  have HLM := Lib.hid (show i < M ∧ M ≤ 200 from ⟨by omega, by omega⟩)
  have HL1 := Lib.hid (show (ys.take i).length = i by simp; omega)
  have HL2 := Lib.hid (show (ys.drop (i + 1)).length = M - (i + 1) by simp [hM])
  have hMi : (M : Int) ≤ 200 := by have := HLM.out; omega
  have hii : (i : Int) < (M : Int) := by have := HLM.out; omega
  have hic : i ≤ cap := by omega
  have hic1 : i + 1 ≤ cap := by omega
  have hin : i + 1 ≤ M := by omega
  have hcpm : (M : Int) ≤ (cap : Int) := by omega
  have hcm2 : (cap : Int) ≤ 9223372036854775807 := by unfold maxLen at hcm; omega
  have HT1 := Lib.hid ht1
  have HT2 := Lib.hid ht2
  have HY := Lib.hid h
  have HS := Lib.hid hstep
  have HBS := Lib.hid (show base ≤ w.heap.size from by have := (h.lt q (.inl rfl)); omega)
  clear h inv hT hML hnv hs h0 hstep hlc hcm hM hi ht1 ht2 hnet he0
  rename World => Y
  go_enter Try.func19, Try.ntmps19
  go_upto_region 23 with fail
  have hw3 : (i : Int) + 1 ≤ (M : Int) := by omega
  have hw2 : 0 ≤ (i : Int) + 1 := by omega
  have hw1 : IntKind.i64.wrap ((i : Int) + 1) = (i : Int) + 1 := by simp [IntKind.wrap, IntKind.signed, IntKind.bits]; omega
  have hw4 : ((i : Int) + 1).toNat = i + 1 := by omega
  refine wp_region_noPanic ?_
  refine wp_region_lim (BelS Y) (fun i => decide (i < 17)) (fun i => false) (by kernel_rfl) (by kernel_rfl) (Below.refl _ Y).drew (fun HT hS0 => ?_)
  refine tkD HT 0 91 (v := ?_) ?_ ?_
  rotate_left
  · (intro w5 hSw; go_simp; (try with_reducible rfl))
  try simp only [s1, s2, s3]
  refine tkD HT 2 93 (v := ?_) ?_ ?_
  rotate_left
  · (intro w5 hSw; go_simp; (try with_reducible rfl))
  try simp only [s1, s2, s3]
  refine tkD HT 3 94 (v := ?_) ?_ ?_
  rotate_left
  · (intro w5 hSw; go_simp; (try with_reducible rfl))
  try simp only [s1, s2, s3]
  refine tkD HT 4 95 (v := ?_) ?_ ?_
  rotate_left
  · (intro w5 hSw; go_simp; (try with_reducible rfl))
  try simp only [s1, s2, s3]
  refine tkD HT 5 96 (v := ?_) ?_ ?_
  rotate_left
  · (intro w5 hSw; have q6 := keepc' g6 (show Below Y.heap.size Y w5 from hSw); go_simp; (try with_reducible rfl))
  try simp only [s1, s2, s3]
  refine tkD HT 6 97 (v := ?_) ?_ ?_
  rotate_left
  · (intro w5 hSw; go_simp; (try with_reducible rfl))
  try simp only [s1, s2, s3]
  refine tkD HT 7 98 (v := ?_) ?_ ?_
  rotate_left
  · (intro w5 hSw; go_simp; (try with_reducible rfl))
  try simp only [s1, s2, s3]
  refine tkD HT 9 100 (v := ?_) ?_ ?_
  rotate_left
  · (intro w5 hSw; go_simp; (try with_reducible rfl))
  try simp only [s1, s2, s3]
  refine tkD HT 10 101 (v := ?_) ?_ ?_
  rotate_left
  · (intro w5 hSw; go_simp; (try with_reducible rfl))
  try simp only [s1, s2, s3]
  refine tkD HT 11 102 (v := ?_) ?_ ?_
  rotate_left
  · (intro w5 hSw; go_simp; (try with_reducible rfl))
  try simp only [s1, s2, s3]
  refine tkD HT 12 103 (v := ?_) ?_ ?_
  rotate_left
  · (intro w5 hSw; have q6 := keepc' g6 (show Below Y.heap.size Y w5 from hSw); go_simp; (try with_reducible rfl))
  try simp only [s1, s2, s3]
  refine tkD HT 13 104 (v := ?_) ?_ ?_
  rotate_left
  · (intro w5 hSw; go_simp; (try with_reducible rfl))
  try simp only [s1, s2, s3]
  refine tkD HT 14 105 (v := ?_) ?_ ?_
  rotate_left
  · (intro w5 hSw; go_simp; (try with_reducible rfl))
  try simp only [s1, s2, s3]
  refine tkD HT 15 106 (v := ?_) ?_ ?_
  rotate_left
  · (intro w5 hSw; go_simp; (try with_reducible rfl))
  try simp only [s1, s2, s3]
  refine tkS 1 (fun K5 hK => ?_)
  go_simp
  refine hK.out _ _ ((Below.refl _ Y).drew.trans (bel1 Y.drew (.cells #[] 92))) (fun hS1 => ?_)
  clear hK K5
  try simp only [Act.put, s1, s2, s3]
  have o0 : OwnL encY 28 92 (World.drew (World.alloc Y (.cells #[] 92))) Y.heap.size (.slice (some ⟨Y.heap.size, 0, none⟩) 0 0) [] := World.ownsRow_made Y.drew #[] 0 (Nat.le_refl _) (Nat.zero_le _) rfl
  have b0 : Below Y.heap.size Y (World.drew (World.alloc Y (.cells #[] 92))) := (Below.refl _ Y).drew.trans (bel1 Y.drew (.cells #[] 92))
  generalize (World.drew (World.alloc Y (.cells #[] 92))) = V1 at *
  have O0 := Lib.hid o0
  have B0 := Lib.hid b0
  clear o0 b0
  refine tkS 8 (fun K5 hK => ?_)
  refine step_app EY TY rfl (.tmp 92) (.tmp 98) rfl rfl O0.out (some ⟨g, 0, none⟩) i cap (ys.take i) HL1.out rfl (HT1.out.below B0.out) (by simp) (by rw [HL1.out]; have := HLM.out; simp; omega) (by rw [HL1.out]; have := HLM.out; unfold maxLen; simp; omega) B0.out.size ?_
  intro v1 w1 ho hg hf
  have O1 := Lib.hid ho
  have B1 := Lib.hid (B0.out.grown hg B0.out.size (fun j hj => (World.ownsRow.lt O0.out j hj).1))
  refine hK.out _ _ B1.out (fun hS2 => ?_)
  clear hK K5 ho hg hf
  try simp only [Act.put, s1, s2, s3]
  refine tkS 16 (fun K5 hK => ?_)
  refine step_app EY TY rfl (.tmp 99) (.tmp 106) rfl rfl O1.out (some A) (M - (i + 1)) (cap - (i + 1)) (ys.drop (i + 1)) HL2.out rfl (HT2.out.below B1.out) (by simp) (by rw [List.nil_append, HL1.out, HL2.out]; have := HLM.out; omega) (by rw [List.nil_append, HL1.out, HL2.out]; have := HLM.out; unfold maxLen; omega) B1.out.size ?_
  intro v2 w2 ho hg hf
  rw [List.nil_append] at ho
  have O2 := Lib.hid ho
  have B2 := Lib.hid (B1.out.grown hg B1.out.size (fun j hj => (World.ownsRow.lt O1.out j hj).1))
  have G2 := Lib.hid (HY.out.nets (OwnL.mono O2.out HBS.out) (Mod.bel (S := fun _ => False) B2.out) (fun b e => e.elim) (fun g hg => .inr (World.ownsRow.lt O2.out g hg).1) HCU.out)
  refine hK.out _ _ B2.out (fun hS3 => ?_)
  clear hK K5 ho hg hf
  try simp only [Act.put, s1, s2, s3]
  have z1 := (cell_of G2.out.1 6 rfl).1
  have z2 := (cell_of G2.out.1 6 rfl).2
  obtain ⟨sa2, sc2, hv2, -, -⟩ := O2.out.sli EY
  obtain ⟨N2, hN2⟩ : ∃ N2, N2 = (ys.take i ++ ys.drop (i + 1)).length := ⟨_, rfl⟩
  rw [← hN2] at hv2
  clear hN2
  subst hv2
  refine tkL 17 (fun K5 hK => ?_)
  go_simp
  refine hK.out _ _ ?_
  clear hK K5
  try simp only [Act.put, s1, s2, s3]
  refine tkL 18 (fun K5 hK => ?_)
  go_simp
  refine hK.out _ _ ?_
  clear hK K5
  try simp only [Act.put, s1, s2, s3]
  refine tkL 19 (fun K5 hK => ?_)
  go_simp
  refine hK.out _ _ ?_
  clear hK K5
  try simp only [Act.put, s1, s2, s3]
  refine wpAnyM_done (by kernel_rfl) (NoPanic.normal ?_)
  have g3 := G2.out.2
  rw [HER.out] at g3
  have HG := Lib.hid g3
  clear g3 z1 z2 g6 hS0 hS1 hS2 hS3 HT O0 O1 O2
  generalize w2.setCell ⟨q, 6, none⟩ (.slice sa2 N2 sc2) = Z at *
  go_wp2
  go_end0
  exact ⟨rfl, by rw [HS.out]; exact ⟨_, _, _, HG.out.1, HG.out.2.1, HG.out.2.2⟩⟩
end Go.Proofs.Ytcleaamjfjnkkaa
