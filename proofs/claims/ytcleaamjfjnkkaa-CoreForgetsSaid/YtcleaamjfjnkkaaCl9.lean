/- Of two choices: a message is doubled. -/
import Derived.Test.YtcleaamjfjnkkaaCl8
import Derived.Deep.MidRow
namespace Go.Proofs.Ytcleaamjfjnkkaa
open Go.RowKit Go.Joins

set_option linter.unusedSimpArgs false in
set_option linter.unusedVariables false in
set_option maxHeartbeats 8000000 in
set_option maxRecDepth 100000 in
theorem kstep_d0 {w : World} {base q : Nat} {V : Nat → VM} {l : LM} {ys : List RY} {k : Clu} {T : Int} (h : KAt w base q V l ys k) (inv : CInv T k) (hT : T ≤ 800000) (a b : Int) (ha : 0 ≤ a ∧ a ≤ 255) (hb : 0 ≤ b ∧ b ≤ 255) (hs : a % 16 = 8) (h0 : k.net.length = 0) :
    Calls Try.prog 19 #[.pointer (some ⟨q, 0, none⟩), .int .u8 a, .int .u8 b] w (Tup0 (KUpd base q V l (k.stepN a b) w)) := by
  have mixed : Try.prog.follows .mixedOrders = true := by kernel_rfl
  have hML : ys.length = k.net.length := by rw [← h.eq, List.length_map]
  obtain ⟨na, nc, hnv, -, -⟩ := h.net.sli EY
  rw [hML] at hnv
  have g6 := (h.cells (n := 0) (by omega)).2.2.1
  rw [hnv] at g6
  have HN := Lib.hid hnv
  have HML := Lib.hid hML
  have HH := Lib.hid h
  have HI := Lib.hid inv
  have HTT := Lib.hid hT
  obtain ⟨ha0, ha1⟩ := ha
  obtain ⟨hb0, hb1⟩ := hb
  have hM200 : (k.net.length : Int) ≤ 200 := by have := inv.net; omega
  have hc0 : (a % 16 == 0) = false := by simp; omega
  have hc1 : (a % 16 == 1) = false := by simp; omega
  have hc2 : (a % 16 == 2) = false := by simp; omega
  have hc3 : (a % 16 == 3) = false := by simp; omega
  have hc4 : (a % 16 == 4) = false := by simp; omega
  have hc5 : (a % 16 == 5) = false := by simp; omega
  have hc6 : (a % 16 == 6) = false := by simp; omega
  have hc7 : (a % 16 == 7) = false := by simp; omega
  have hc8 : (a % 16 == 8) = true := by simp; omega
  have hstep : k.stepN a b = k := by
    unfold Clu.stepN; simp only
    rw [if_neg (by omega), if_neg (by omega), if_neg (by omega), if_pos hs, if_neg (by omega)]
  have HS := Lib.hid hstep
  rw [h0] at g6
  clear inv hT hML hnv hs hstep h0 h
  go_enter Try.func19, Try.ntmps19
  go_wp2
  go_end0
  exact ⟨rfl, by rw [HS.out]; exact HH.out.stay (Below.refl _ _)⟩
set_option linter.unusedSimpArgs false in
set_option linter.unusedVariables false in
set_option maxHeartbeats 8000000 in
set_option maxRecDepth 100000 in
theorem kstep_d2 {w : World} {base q : Nat} {V : Nat → VM} {l : LM} {ys : List RY} {k : Clu} {T : Int} (h : KAt w base q V l ys k) (inv : CInv T k) (hT : T ≤ 800000) (a b : Int) (ha : 0 ≤ a ∧ a ≤ 255) (hb : 0 ≤ b ∧ b ≤ 255) (hs : a % 16 = 8) (h0 : 200 ≤ k.net.length) :
    Calls Try.prog 19 #[.pointer (some ⟨q, 0, none⟩), .int .u8 a, .int .u8 b] w (Tup0 (KUpd base q V l (k.stepN a b) w)) := by
  have mixed : Try.prog.follows .mixedOrders = true := by kernel_rfl
  have hML : ys.length = k.net.length := by rw [← h.eq, List.length_map]
  obtain ⟨na, nc, hnv, -, -⟩ := h.net.sli EY
  rw [hML] at hnv
  have g6 := (h.cells (n := 0) (by omega)).2.2.1
  rw [hnv] at g6
  have HN := Lib.hid hnv
  have HML := Lib.hid hML
  have HH := Lib.hid h
  have HI := Lib.hid inv
  have HTT := Lib.hid hT
  obtain ⟨ha0, ha1⟩ := ha
  obtain ⟨hb0, hb1⟩ := hb
  have hM200 : (k.net.length : Int) ≤ 200 := by have := inv.net; omega
  have hc0 : (a % 16 == 0) = false := by simp; omega
  have hc1 : (a % 16 == 1) = false := by simp; omega
  have hc2 : (a % 16 == 2) = false := by simp; omega
  have hc3 : (a % 16 == 3) = false := by simp; omega
  have hc4 : (a % 16 == 4) = false := by simp; omega
  have hc5 : (a % 16 == 5) = false := by simp; omega
  have hc6 : (a % 16 == 6) = false := by simp; omega
  have hc7 : (a % 16 == 7) = false := by simp; omega
  have hc8 : (a % 16 == 8) = true := by simp; omega
  have hstep : k.stepN a b = k := by
    unfold Clu.stepN; simp only
    rw [if_neg (by omega), if_neg (by omega), if_neg (by omega), if_pos hs, if_neg (by omega)]
  have HS := Lib.hid hstep
  have hx1 : decide ((0 : Int) < (k.net.length : Int)) = true := decide_eq_true (by omega)
  have hx2 : decide ((k.net.length : Int) < 200) = false := decide_eq_false (by omega)
  have hx3 : 0 < (k.net.length : Int) := by omega
  clear inv hT hML hnv hs hstep h0 h
  go_enter Try.func19, Try.ntmps19
  go_wp2
  go_end0
  exact ⟨rfl, by rw [HS.out]; exact HH.out.stay (Below.refl _ _)⟩
def DupS (q g o M cap : Nat) (src dst : Int) (x : RM) (w' : World) : Prop := w'.cell? ⟨q, 6, none⟩ = some (.slice (some ⟨g, 0, none⟩) M cap) ∧ w'.rangeAt g o [.int .i64 src, .int .i64 dst, .int .i64 x.m.kind, .int .u64 x.m.term, .int .i64 x.m.prev, .int .u64 x.m.pterm, .slice x.ea x.m.ents.length x.ec, .int .i64 x.m.commit, .bool x.m.yes, .int .i64 x.m.mat, .int .i64 x.m.stamp, .int .u64 0, .int .i64 0, .bool false, .slice none 0 0, .int .i64 0, .int .u64 0, .int .u64 0, .int .u64 0, .int .u64 0, .int .i64 0, .int .u64 0, .int .u64 0, .int .u64 0, .int .u64 0, .int .i64 0, .int .i64 0, .slice none 0 0]
set_option linter.unusedSimpArgs false in
set_option linter.unusedVariables false in
set_option maxHeartbeats 8000000 in
set_option maxRecDepth 100000 in
theorem kstep_d1 {w : World} {base q : Nat} {V : Nat → VM} {l : LM} {ys : List RY} {k : Clu} {T : Int} (h : KAt w base q V l ys k) (inv : CInv T k) (hT : T ≤ 800000) (a b : Int) (ha : 0 ≤ a ∧ a ≤ 255) (hb : 0 ≤ b ∧ b ≤ 255) (hs : a % 16 = 8) (h0 : 0 < k.net.length) (h2 : k.net.length < 200) :
    Calls Try.prog 19 #[.pointer (some ⟨q, 0, none⟩), .int .u8 a, .int .u8 b] w (Tup0 (KUpd base q V l (k.stepN a b) w)) := by
  have mixed : Try.prog.follows .mixedOrders = true := by kernel_rfl
  have hML : ys.length = k.net.length := by rw [← h.eq, List.length_map]
  obtain ⟨ha0, ha1⟩ := ha
  obtain ⟨hb0, hb1⟩ := hb
  have h0i : 0 < (k.net.length : Int) := by omega
  have he0 := Int.emod_nonneg b (show (k.net.length : Int) ≠ 0 by omega)
  have he1 := Int.emod_lt_of_pos b h0i
  have hstep : k.stepN a b = { k with net := k.net ++ [k.net.getD (b % (k.net.length : Int)).toNat default] } := by
    unfold Clu.stepN; simp only
    rw [if_neg (by omega), if_neg (by omega), if_neg (by omega), if_pos hs, if_pos ⟨h0, h2⟩, if_pos h0]
  have hc0 : (a % 16 == 0) = false := by simp; omega
  have hc1 : (a % 16 == 1) = false := by simp; omega
  have hc2 : (a % 16 == 2) = false := by simp; omega
  have hc3 : (a % 16 == 3) = false := by simp; omega
  have hc4 : (a % 16 == 4) = false := by simp; omega
  have hc5 : (a % 16 == 5) = false := by simp; omega
  have hc6 : (a % 16 == 6) = false := by simp; omega
  have hc7 : (a % 16 == 7) = false := by simp; omega
  have hc8 : (a % 16 == 8) = true := by simp; omega
  obtain ⟨i, hbm⟩ := Int.eq_ofNat_of_zero_le he0
  rw [hbm, Int.toNat_natCast] at hstep
  have hi : i < ys.length := by omega
  obtain ⟨g, cap, hnv, hlc, hcm, hrow, -, A, hA, -⟩ := h.take_at hi
  have g6 := (h.cells (n := 0) (by omega)).2.2.1
  rw [hnv] at g6
  have hyd : ys.getD i default ∈ ys := by simp [List.getD_eq_getElem?_getD, hi]
  have hye := h.ents _ hyd
  have hgd : k.net.getD i default = (ys.getD i default).f := by
    rw [← h.eq]; simp [List.getD_eq_getElem?_getD, hi]
  rw [hgd] at hstep
  generalize ys.getD i default = y at *
  obtain ⟨src, dst, x⟩ := y
  have HER := Lib.hid (show (ys ++ [(⟨src, dst, x⟩ : RY)]).map RY.f = k.net ++ [(⟨src, dst, x⟩ : RY).f] by rw [List.map_append, h.eq]; rfl)
  have HEY := Lib.hid (show ∀ W, Below w.heap.size w W → ∀ y ∈ ys ++ [(⟨src, dst, x⟩ : RY)], EAt W (KF q V l) y.x from fun W hW y hy => by
    refine EAt.mod ?_ (Mod.bel hW) (fun _ hk => .inl hk)
    rcases List.mem_append.1 hy with e | e
    · exact h.ents y e
    · rw [List.mem_singleton.1 e]; exact hye)
  rw [← hML] at hbm he1 h0i h2
  obtain ⟨M, hM⟩ : ∃ M, M = ys.length := ⟨_, rfl⟩
  rw [← hM] at g6 hbm he1 h0i h2 hnv
  have HLM := Lib.hid (show ys.length = M ∧ i < M ∧ M ≤ 199 from ⟨hM.symm, by omega, by omega⟩)
  have hMi : (M : Int) ≤ 199 := by have := HLM.out; omega
  have hx1 : decide ((0 : Int) < (M : Int)) = true := decide_eq_true (by omega)
  have hx2 : decide ((M : Int) < 200) = true := decide_eq_true (by omega)
  have hii : (i : Int) < (M : Int) := by have := HLM.out; omega
  have hin : i < M := by omega
  have HNV := Lib.hid hnv
  have HY := Lib.hid h
  have HS := Lib.hid hstep
  have hnq : l.nv.ownBlock ≠ some q := h.kin.q1.1
  have hq := h.lt q (.inl rfl)
  have HDS := Lib.hid (show ∀ W, Below w.heap.size w W → DupS q g (i * 28) M cap src dst x W from fun W hb => ⟨keepc' g6 hb, CellsAt.below hrow hb⟩)
  clear h inv hT hML hnv hs h0 h2 hstep hlc hcm hM hi hye hyd hgd he0 hnq hq hrow hA
  rename World => Y
  go_enter Try.func19, Try.ntmps19
  go_upto_region 26 with fail
  refine wp_region_noPanic ?_
  refine wp_region_lim (DupS q g (i * 28) M cap src dst x) (fun i => decide (0 < i ∧ i < 13)) (fun i => decide (i = 0)) (by kernel_rfl) (by kernel_rfl) (HDS.out _ (Below.refl _ Y).drew) (fun HT hS0 => ?_)
  refine tkF 0 126 (v := ?_) ?_ ?_
  rotate_left
  · (intro w5 hSw; go_simp; (try with_reducible rfl))
  try simp only [s1, s2, s3]
  refine tkD HT 1 127 (v := ?_) ?_ ?_
  rotate_left
  · (intro w5 hSw; go_simp; (try with_reducible rfl))
  try simp only [s1, s2, s3]
  refine tkD HT 2 128 (v := ?_) ?_ ?_
  rotate_left
  · (intro w5 hSw; go_simp; (try with_reducible rfl))
  try simp only [s1, s2, s3]
  refine tkD HT 3 129 (v := ?_) ?_ ?_
  rotate_left
  · (intro w5 hSw; go_simp; (try with_reducible rfl))
  try simp only [s1, s2, s3]
  refine tkD HT 4 130 (v := ?_) ?_ ?_
  rotate_left
  · (intro w5 hSw; obtain ⟨q1, -⟩ := hSw; go_simp; (try with_reducible rfl))
  try simp only [s1, s2, s3]
  refine tkD HT 5 131 (v := ?_) ?_ ?_
  rotate_left
  · (intro w5 hSw; go_simp; (try with_reducible rfl))
  try simp only [s1, s2, s3]
  refine tkD HT 6 132 (v := ?_) ?_ ?_
  rotate_left
  · (intro w5 hSw; go_simp; (try with_reducible rfl))
  try simp only [s1, s2, s3]
  refine tkD HT 7 133 (v := ?_) ?_ ?_
  rotate_left
  · (intro w5 hSw; go_simp; (try with_reducible rfl))
  try simp only [s1, s2, s3]
  refine tkD HT 8 134 (v := ?_) ?_ ?_
  rotate_left
  · (intro w5 hSw; obtain ⟨q1, -⟩ := hSw; go_simp; (try with_reducible rfl))
  try simp only [s1, s2, s3]
  refine tkD HT 9 135 (v := ?_) ?_ ?_
  rotate_left
  · (intro w5 hSw; go_simp; (try with_reducible rfl))
  try simp only [s1, s2, s3]
  refine tkD HT 10 136 (v := ?_) ?_ ?_
  rotate_left
  · (intro w5 hSw; go_simp; (try with_reducible rfl))
  try simp only [s1, s2, s3]
  refine wpAnyM_takeD HT 11 137 (v := .agg #[.int .i64 src, .int .i64 dst, .int .i64 x.m.kind, .int .u64 x.m.term, .int .i64 x.m.prev, .int .u64 x.m.pterm, .slice x.ea x.m.ents.length x.ec, .int .i64 x.m.commit, .bool x.m.yes, .int .i64 x.m.mat, .int .i64 x.m.stamp, .int .u64 0, .int .i64 0, .bool false, .slice none 0 0, .int .i64 0, .int .u64 0, .int .u64 0, .int .u64 0, .int .u64 0, .int .i64 0, .int .u64 0, .int .u64 0, .int .u64 0, .int .u64 0, .int .i64 0, .int .i64 0, .slice none 0 0]) rfl rfl (by kernel_rfl) (fun _ _ _ h => h) (yieldsIf_load_mid (S := (DupS q g (i * 28) M cap src dst x)) (by kernel_rfl) 92 (.tmp 136) rfl g (i * 28) ?_ [.int .i64 src, .int .i64 dst, .int .i64 x.m.kind, .int .u64 x.m.term, .int .i64 x.m.prev, .int .u64 x.m.pterm, .slice x.ea x.m.ents.length x.ec, .int .i64 x.m.commit, .bool x.m.yes, .int .i64 x.m.mat, .int .i64 x.m.stamp, .int .u64 0, .int .i64 0, .bool false, .slice none 0 0, .int .i64 0, .int .u64 0, .int .u64 0, .int .u64 0, .int .u64 0, .int .i64 0, .int .u64 0, .int .u64 0, .int .u64 0, .int .u64 0, .int .i64 0, .int .i64 0, .slice none 0 0] _ (fun w5 hSw => hSw.2) Try.underlying92 rfl (by kernel_rfl)) (by assumption) ?_
  · rfl
  try simp only [s1, s2, s3]
  refine tkS 12 (fun K5 hK => ?_)
  go_simp
  refine hK.out _ _ (HDS.out _ ((Below.refl _ Y).drew.trans (bel1 Y.drew (.cells #[.int .i64 src, .int .i64 dst, .int .i64 x.m.kind, .int .u64 x.m.term, .int .i64 x.m.prev, .int .u64 x.m.pterm, .slice x.ea x.m.ents.length x.ec, .int .i64 x.m.commit, .bool x.m.yes, .int .i64 x.m.mat, .int .i64 x.m.stamp, .int .u64 0, .int .i64 0, .bool false, .slice none 0 0, .int .i64 0, .int .u64 0, .int .u64 0, .int .u64 0, .int .u64 0, .int .i64 0, .int .u64 0, .int .u64 0, .int .u64 0, .int .u64 0, .int .i64 0, .int .i64 0, .slice none 0 0] 92)))) (fun hS1 => ?_)
  clear hK K5
  try simp only [Act.put, s1, s2, s3]
  have l1 : Lst encY 28 (World.drew (World.alloc Y (.cells #[.int .i64 src, .int .i64 dst, .int .i64 x.m.kind, .int .u64 x.m.term, .int .i64 x.m.prev, .int .u64 x.m.pterm, .slice x.ea x.m.ents.length x.ec, .int .i64 x.m.commit, .bool x.m.yes, .int .i64 x.m.mat, .int .i64 x.m.stamp, .int .u64 0, .int .i64 0, .bool false, .slice none 0 0, .int .i64 0, .int .u64 0, .int .u64 0, .int .u64 0, .int .u64 0, .int .i64 0, .int .u64 0, .int .u64 0, .int .u64 0, .int .u64 0, .int .i64 0, .int .i64 0, .slice none 0 0] 92))) (some ⟨Y.heap.size, 0, none⟩) [⟨src, dst, x⟩] := litY Y.drew ⟨src, dst, x⟩
  have gl1 : Below Y.heap.size Y (World.drew (World.alloc Y (.cells #[.int .i64 src, .int .i64 dst, .int .i64 x.m.kind, .int .u64 x.m.term, .int .i64 x.m.prev, .int .u64 x.m.pterm, .slice x.ea x.m.ents.length x.ec, .int .i64 x.m.commit, .bool x.m.yes, .int .i64 x.m.mat, .int .i64 x.m.stamp, .int .u64 0, .int .i64 0, .bool false, .slice none 0 0, .int .i64 0, .int .u64 0, .int .u64 0, .int .u64 0, .int .u64 0, .int .i64 0, .int .u64 0, .int .u64 0, .int .u64 0, .int .u64 0, .int .i64 0, .int .i64 0, .slice none 0 0] 92))) := (Below.refl _ Y).drew.trans (bel1 Y.drew (.cells #[.int .i64 src, .int .i64 dst, .int .i64 x.m.kind, .int .u64 x.m.term, .int .i64 x.m.prev, .int .u64 x.m.pterm, .slice x.ea x.m.ents.length x.ec, .int .i64 x.m.commit, .bool x.m.yes, .int .i64 x.m.mat, .int .i64 x.m.stamp, .int .u64 0, .int .i64 0, .bool false, .slice none 0 0, .int .i64 0, .int .u64 0, .int .u64 0, .int .u64 0, .int .u64 0, .int .i64 0, .int .u64 0, .int .u64 0, .int .u64 0, .int .u64 0, .int .i64 0, .int .i64 0, .slice none 0 0] 92))
  generalize (World.drew (World.alloc Y (.cells #[.int .i64 src, .int .i64 dst, .int .i64 x.m.kind, .int .u64 x.m.term, .int .i64 x.m.prev, .int .u64 x.m.pterm, .slice x.ea x.m.ents.length x.ec, .int .i64 x.m.commit, .bool x.m.yes, .int .i64 x.m.mat, .int .i64 x.m.stamp, .int .u64 0, .int .i64 0, .bool false, .slice none 0 0, .int .i64 0, .int .u64 0, .int .u64 0, .int .u64 0, .int .u64 0, .int .i64 0, .int .u64 0, .int .u64 0, .int .u64 0, .int .u64 0, .int .i64 0, .int .i64 0, .slice none 0 0] 92))) = V1 at *
  have l1' := Lib.hid l1
  have g1' := Lib.hid gl1
  clear l1 gl1
  have K1 := Lib.hid (HY.out.below g1'.out)
  refine tkL 13 (fun K5 hK => ?_)
  refine step_app EY TY rfl (.tmp 130) (.tmp 138) rfl rfl (HNV.out ▸ K1.out.net) (some ⟨Y.heap.size, 0, none⟩) 1 1 [⟨src, dst, x⟩] rfl rfl l1'.out (by simp) (by have := HLM.out; rw [List.length_singleton, this.1]; omega) (by have := HLM.out; rw [List.length_singleton, this.1]; unfold maxLen; omega) (by have := K1.out.lt q (.inl rfl); omega) ?_
  intro v1 w1 ho hg hf
  have G1 := Lib.hid (K1.out.nets ho (Mod.grown (S := fun b => l.nv.ownBlock = some b) hg (fun b e => HNV.out ▸ e)) (fun b e => e) (fun b e => by rw [HNV.out]; exact hf b e) (HEY.out _ g1'.out))
  refine hK.out _ _ ?_
  clear hK K5 ho hg hf
  try simp only [Act.put, s1, s2, s3]
  have z1 := (cell_of G1.out.1 6 rfl).1
  have z2 := (cell_of G1.out.1 6 (v := l.nv) rfl).2
  obtain ⟨sa1, sc1, hv1, -, -⟩ := G1.out.2.1.net.sli EY
  change v1 = _ at hv1
  rw [List.length_append, HLM.out.1, List.length_singleton] at hv1
  subst hv1
  refine tkL 14 (fun K5 hK => ?_)
  go_simp
  refine hK.out _ _ ?_
  clear hK K5
  try simp only [Act.put, s1, s2, s3]
  refine tkL 15 (fun K5 hK => ?_)
  go_simp
  refine hK.out _ _ ?_
  clear hK K5
  try simp only [Act.put, s1, s2, s3]
  refine tkL 16 (fun K5 hK => ?_)
  go_simp
  refine hK.out _ _ ?_
  clear hK K5
  try simp only [Act.put, s1, s2, s3]
  refine wpAnyM_done (by kernel_rfl) (NoPanic.normal ?_)
  have HG := Lib.hid G1.out.2
  clear z1 z2 g6 hS0 hS1 HT G1 K1
  generalize w1.setCell ⟨q, 6, none⟩ (.slice sa1 (M + 1) sc1) = Z at *
  go_wp2
  go_end0
  refine ⟨rfl, ?_⟩
  have g3 := HG.out
  rw [HER.out] at g3
  rw [HS.out]
  exact KUpd.then (Mod.bel g1'.out) (fun b hb => .inl hb) ⟨_, _, _, g3.1, g3.2.1, g3.2.2⟩
end Go.Proofs.Ytcleaamjfjnkkaa
