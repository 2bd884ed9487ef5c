/- A message is delivered. -/
import Derived.Test.YtcleaamjfjnkkaaCl4
import Derived.Laws.Tables
namespace Go.Proofs.Ytcleaamjfjnkkaa
open Go.RowKit Go.Joins

theorem EAt.less {w : World} {S S' : Nat → Prop} {x : RM} (h : EAt w S x) (hs : ∀ b, S' b → S b) : EAt w S' x := ⟨h.1, fun b off e => ⟨(h.2 b off e).1, fun hb => (h.2 b off e).2 (hs b hb)⟩⟩
/-- what is under way is sound. -/
structure KMs (k : Clu) : Prop extends KOk k where
  msg : ∀ f ∈ k.net, MOk f.m ∧ 0 ≤ f.dst ∧ f.dst < 3
theorem KAt.take_at {w : World} {base q : Nat} {V : Nat → VM} {l : LM} {ys : List RY} {k : Clu} (h : KAt w base q V l ys k) {i : Nat} (hi : i < ys.length) :
    ∃ g cap, l.nv = .slice (some ⟨g, 0, none⟩) ys.length cap ∧ ys.length ≤ cap ∧ cap ≤ maxLen ∧ CellsAt w g (i * 28) (encY (ys.getD i default)) ∧ Lst encY 28 w (some ⟨g, 0, none⟩) (ys.take i) ∧
      ∃ A : Addr, (if cap = i + 1 then (some ⟨g, 0, none⟩ : Option Addr) else some ⟨g, (i + 1) * 28, none⟩) = some A ∧ Lst encY 28 w (some A) (ys.drop (i + 1)) := by
  obtain ⟨g, cap, hv, -, -⟩ := h.net.form (by omega)
  have hS : Sli encY 28 w (some ⟨g, 0, none⟩) cap ys := OwnL.slix EY (hv ▸ h.net)
  obtain ⟨b, off, e, hc⟩ := hS.lst i hi
  simp at e
  obtain ⟨rfl, rfl⟩ := e
  rw [Nat.zero_add] at hc
  refine ⟨g, cap, hv, hS.len, hS.capm, hc, (hS.take i).lst, ?_⟩
  by_cases hcp : cap = i + 1
  · refine ⟨⟨g, 0, none⟩, by simp [hcp], fun j hj => ?_⟩
    have := hS.len
    simp at hj
    omega
  · refine ⟨⟨g, (i + 1) * 28, none⟩, by simp [hcp], ?_⟩
    have := Lst.drop hS.lst (i + 1)
    rw [Nat.zero_add] at this
    exact this
def DelS (bx q n p : Nat) (t src : Int) (x : RM) (w' : World) : Prop := w'.heap[bx]? = some (.cells (encY ⟨src, (n : Int), x⟩).toArray 92 (0, 0)) ∧ w'.cell? ⟨q, n, none⟩ = some (.pointer (some ⟨p, 0, none⟩)) ∧ w'.cell? ⟨q, 3 + n, none⟩ = some (.int .i64 t)
theorem DelS.row {bx q n p : Nat} {t src : Int} {x : RM} {w : World} (h : DelS bx q n p t src x w) : w.rangeAt bx 2 (encM x) := by
  intro j v hj
  refine (cell_of h.1 (2 + j) ?_).1
  rw [Nat.add_comm 2 j]
  simpa [encY] using hj
set_option linter.unusedSimpArgs false in
set_option linter.unusedVariables false in
set_option maxHeartbeats 8000000 in
set_option maxRecDepth 100000 in
theorem kdel_any {w : World} {base q : Nat} {V : Nat → VM} {l : LM} {ys : List RY} {k : Clu} (h : KAt w base q V l ys k) (ok : KMs k) (z draw : Int) (hz0 : 0 ≤ z) (hz3 : z < (k.net.length : Int)) (hdr : I64 draw) :
    Calls Try.prog 50 #[.pointer (some ⟨q, 0, none⟩), .int .i64 z, .int .i64 draw] w (Tup0 (KUpd base q V l (k.delN z.toNat draw) w)) := by
  have mixed : Try.prog.follows .mixedOrders = true := by kernel_rfl
  obtain ⟨i, rfl⟩ := Int.eq_ofNat_of_zero_le hz0
  rw [Int.toNat_natCast]
  have hML : ys.length = k.net.length := by rw [← h.eq, List.length_map]
  have hi : i < ys.length := by omega
  obtain ⟨g, cap, hnv, hlc, hcm, hrow, ht1, A, hA, ht2⟩ := h.take_at hi
  have hg6 := (h.cells (n := 0) (by omega)).2.2.1
  rw [hnv] at hg6
  have hyd : ys.getD i default ∈ ys := by simp [List.getD_eq_getElem?_getD, hi]
  have hye := h.ents _ hyd
  have hym : (ys.getD i default).f ∈ k.net := by rw [← h.eq]; exact List.mem_map_of_mem hyd
  have hms := ok.msg _ hym
  have hgd : k.net.getD i default = (ys.getD i default).f := by
    rw [← h.eq]; simp [List.getD_eq_getElem?_getD, hi]
  have HDL := Lib.hid (show k.delN i draw = ({ k with net := k.net.eraseIdx i, co := upd k.co (ys.getD i default).dst.toNat ((k.co (ys.getD i default).dst.toNat).handle (ys.getD i default).src (ys.getD i default).x.m (k.clk (ys.getD i default).dst.toNat) draw) } : Clu).sentN (ys.getD i default).dst.toNat by unfold Clu.delN; rw [hgd]; rfl)
  have HER := Lib.hid (show (ys.take i ++ ys.drop (i + 1)).map RY.f = k.net.eraseIdx i by rw [List.map_append, List.map_take, List.map_drop, h.eq, ← List.eraseIdx_eq_take_drop_succ])
  have HEN := Lib.hid (show ∀ y ∈ ys.take i ++ ys.drop (i + 1), y ∈ ys from fun y hy => (List.mem_append.1 hy).elim List.mem_of_mem_take List.mem_of_mem_drop)
  generalize ys.getD i default = y at *
  obtain ⟨src, dst, x⟩ := y
  have hd0 : 0 ≤ dst := hms.2.1
  have hd3 : dst < 3 := hms.2.2
  obtain ⟨n, rfl⟩ := Int.eq_ofNat_of_zero_le hd0
  have hn : n < 3 := by omega
  have HML := Lib.hid hML
  obtain ⟨M, hM⟩ : ∃ M, M = ys.length := ⟨_, rfl⟩
  rw [← hM] at hg6
  have HLM := Lib.hid (show i < M ∧ M ≤ 200 from ⟨by omega, by have := ok.net; omega⟩)
  have HL1 := Lib.hid (show (ys.take i).length = i by simp; omega)
  have HL2 := Lib.hid (show (ys.drop (i + 1)).length = M - (i + 1) by simp [hM])
  have hMi : (M : Int) ≤ 200 := by have := HLM.out; omega
  have hii : (i : Int) < (M : Int) := by have := HLM.out; omega
  have hic : i ≤ cap := by omega
  have hic1 : i + 1 ≤ cap := by omega
  have hin : i + 1 ≤ M := by omega
  have hcpm : (M : Int) ≤ (cap : Int) := by omega
  have hcm2 : (cap : Int) ≤ 9223372036854775807 := by unfold maxLen at hcm; omega
  have HR := Lib.hid (show World.rangeAt w g (i * 28) (encY ⟨src, (n : Int), x⟩) from hrow)
  have HT1 := Lib.hid ht1
  have HT2 := Lib.hid ht2
  have HYE := Lib.hid hye
  have HMO := Lib.hid hms.1
  have HH := Lib.hid h
  have HOK := Lib.hid ok
  have HDR := Lib.hid hdr
  clear h ok hdr hms hym hyd hye hrow ht1 ht2 hlc hcm hML hM hgd hnv hi hd0
  go_enter Try.func50, Try.ntmps50
  go_upto_region 1 with (first
    | (with_reducible refine wpList_load_mid rfl 92 (.tmp 12) rfl g (i * 28) rfl (encY ⟨src, (n : Int), x⟩) _ HR.out Try.underlying92 rfl (by kernel_rfl) ?_)
    | (with_reducible refine wpList_store_row rfl 92 (.tmp 6) (.tmp 13) rfl w.heap.size (encY ⟨src, (n : Int), x⟩).toArray rfl rfl 92 _ (heap_alloc_new w (.cells #[.int .i64 0, .int .i64 0, .int .i64 0, .int .u64 0, .int .i64 0, .int .u64 0, .slice none 0 0, .int .i64 0, .bool false, .int .i64 0, .int .i64 0, .int .u64 0, .int .i64 0, .bool false, .slice none 0 0, .int .i64 0, .int .u64 0, .int .u64 0, .int .u64 0, .int .u64 0, .int .i64 0, .int .u64 0, .int .u64 0, .int .u64 0, .int .u64 0, .int .i64 0, .int .i64 0, .slice none 0 0] 92)) (by kernel_rfl) (by kernel_rfl) (all_oneCell_toArray (EY.2 ⟨src, (n : Int), x⟩)) ?_))
  have HBX := Lib.hid (show ((w.alloc (.cells #[.int .i64 0, .int .i64 0, .int .i64 0, .int .u64 0, .int .i64 0, .int .u64 0, .slice none 0 0, .int .i64 0, .bool false, .int .i64 0, .int .i64 0, .int .u64 0, .int .i64 0, .bool false, .slice none 0 0, .int .i64 0, .int .u64 0, .int .u64 0, .int .u64 0, .int .u64 0, .int .i64 0, .int .u64 0, .int .u64 0, .int .u64 0, .int .u64 0, .int .i64 0, .int .i64 0, .slice none 0 0] 92)).setRow w.heap.size (encY ⟨src, (n : Int), x⟩).toArray).heap[w.heap.size]? = some (.cells (encY ⟨src, (n : Int), x⟩).toArray 92 (0, 0)) from setRow_heap _ _ _ _ _ _ (heap_alloc_new w (.cells #[.int .i64 0, .int .i64 0, .int .i64 0, .int .u64 0, .int .i64 0, .int .u64 0, .slice none 0 0, .int .i64 0, .bool false, .int .i64 0, .int .i64 0, .int .u64 0, .int .i64 0, .bool false, .slice none 0 0, .int .i64 0, .int .u64 0, .int .u64 0, .int .u64 0, .int .u64 0, .int .i64 0, .int .u64 0, .int .u64 0, .int .u64 0, .int .u64 0, .int .i64 0, .int .i64 0, .slice none 0 0] 92)))
  have HWY := Lib.hid (show Below w.heap.size w ((w.alloc (.cells #[.int .i64 0, .int .i64 0, .int .i64 0, .int .u64 0, .int .i64 0, .int .u64 0, .slice none 0 0, .int .i64 0, .bool false, .int .i64 0, .int .i64 0, .int .u64 0, .int .i64 0, .bool false, .slice none 0 0, .int .i64 0, .int .u64 0, .int .u64 0, .int .u64 0, .int .u64 0, .int .i64 0, .int .u64 0, .int .u64 0, .int .u64 0, .int .u64 0, .int .i64 0, .int .i64 0, .slice none 0 0] 92)).setRow w.heap.size (encY ⟨src, (n : Int), x⟩).toArray) from by
    have hs : Mod (fun b => b = w.heap.size) (w.alloc (.cells #[.int .i64 0, .int .i64 0, .int .i64 0, .int .u64 0, .int .i64 0, .int .u64 0, .slice none 0 0, .int .i64 0, .bool false, .int .i64 0, .int .i64 0, .int .u64 0, .int .i64 0, .bool false, .slice none 0 0, .int .i64 0, .int .u64 0, .int .u64 0, .int .u64 0, .int .u64 0, .int .i64 0, .int .u64 0, .int .u64 0, .int .u64 0, .int .u64 0, .int .i64 0, .int .i64 0, .slice none 0 0] 92)) ((w.alloc (.cells #[.int .i64 0, .int .i64 0, .int .i64 0, .int .u64 0, .int .i64 0, .int .u64 0, .slice none 0 0, .int .i64 0, .bool false, .int .i64 0, .int .i64 0, .int .u64 0, .int .i64 0, .bool false, .slice none 0 0, .int .i64 0, .int .u64 0, .int .u64 0, .int .u64 0, .int .u64 0, .int .i64 0, .int .u64 0, .int .u64 0, .int .u64 0, .int .u64 0, .int .i64 0, .int .i64 0, .slice none 0 0] 92)).setRow w.heap.size (encY ⟨src, (n : Int), x⟩).toArray) := ⟨rfl, rfl, rfl, by simp [World.setRow], fun b _ hb => setRow_other _ _ _ _ hb⟩
    exact (bel1 w _).trans (hs.below (bel1 w _).size (fun b e => by omega)))
  have HY := Lib.hid (HH.out.below HWY.out)
  have HBS := Lib.hid (show base ≤ ((w.alloc (.cells #[.int .i64 0, .int .i64 0, .int .i64 0, .int .u64 0, .int .i64 0, .int .u64 0, .slice none 0 0, .int .i64 0, .bool false, .int .i64 0, .int .i64 0, .int .u64 0, .int .i64 0, .bool false, .slice none 0 0, .int .i64 0, .int .u64 0, .int .u64 0, .int .u64 0, .int .u64 0, .int .i64 0, .int .u64 0, .int .u64 0, .int .u64 0, .int .u64 0, .int .i64 0, .int .i64 0, .slice none 0 0] 92)).setRow w.heap.size (encY ⟨src, (n : Int), x⟩).toArray).heap.size from by have := (HH.out.lt q (.inl rfl)); have := HWY.out.size; omega)
  have HNB := Lib.hid (show ¬ KF q V l w.heap.size from fun hk => by have := (HH.out.lt _ hk).2; omega)
  have HT1' := Lib.hid (HT1.out.below HWY.out)
  have HT2' := Lib.hid (HT2.out.below HWY.out)
  have HYE' := Lib.hid (HYE.out.mod (Mod.bel HWY.out) (fun _ hk => .inl hk) : EAt ((w.alloc (.cells #[.int .i64 0, .int .i64 0, .int .i64 0, .int .u64 0, .int .i64 0, .int .u64 0, .slice none 0 0, .int .i64 0, .bool false, .int .i64 0, .int .i64 0, .int .u64 0, .int .i64 0, .bool false, .slice none 0 0, .int .i64 0, .int .u64 0, .int .u64 0, .int .u64 0, .int .u64 0, .int .i64 0, .int .u64 0, .int .u64 0, .int .u64 0, .int .u64 0, .int .i64 0, .int .i64 0, .slice none 0 0] 92)).setRow w.heap.size (encY ⟨src, (n : Int), x⟩).toArray) (KF q V l) x)
  have g6 := keepc' hg6 HWY.out
  clear HT1 HT2 HYE hg6 HR
  have HT1 := HT1'
  have HT2 := HT2'
  clear HT1' HT2'
  generalize (w.alloc (.cells #[.int .i64 0, .int .i64 0, .int .i64 0, .int .u64 0, .int .i64 0, .int .u64 0, .slice none 0 0, .int .i64 0, .bool false, .int .i64 0, .int .i64 0, .int .u64 0, .int .i64 0, .bool false, .slice none 0 0, .int .i64 0, .int .u64 0, .int .u64 0, .int .u64 0, .int .u64 0, .int .i64 0, .int .u64 0, .int .u64 0, .int .u64 0, .int .u64 0, .int .i64 0, .int .i64 0, .slice none 0 0] 92)).setRow w.heap.size (encY ⟨src, (n : Int), x⟩).toArray = Y at *
  generalize hbx : w.heap.size = bx at *
  have HWX := Lib.hid hbx
  clear hbx
  have HCU := Lib.hid (show ∀ y ∈ ys.take i ++ ys.drop (i + 1), EAt Y (KF q V l) y.x from fun y hy => HY.out.ents y (HEN.out y hy))
  have hw3 : (i : Int) + 1 ≤ (M : Int) := by omega
  have hw2 : 0 ≤ (i : Int) + 1 := by omega
  have hw1 : IntKind.i64.wrap ((i : Int) + 1) = (i : Int) + 1 := by simp [IntKind.wrap, IntKind.signed, IntKind.bits]; omega
  have hw4 : ((i : Int) + 1).toNat = i + 1 := by omega
  refine wp_region_noPanic ?_
  refine wp_region_lim (BelS Y) (fun i => decide (i < 17)) (fun i => false) (by kernel_rfl) (by kernel_rfl) (Below.refl _ Y).drew (fun HT hS0 => ?_)
  refine tkD HT 0 14 (v := ?_) ?_ ?_
  rotate_left
  · (intro w5 hSw; go_simp; (try with_reducible rfl))
  try simp only [s1, s2, s3]
  refine tkD HT 2 16 (v := ?_) ?_ ?_
  rotate_left
  · (intro w5 hSw; go_simp; (try with_reducible rfl))
  try simp only [s1, s2, s3]
  refine tkD HT 3 17 (v := ?_) ?_ ?_
  rotate_left
  · (intro w5 hSw; go_simp; (try with_reducible rfl))
  try simp only [s1, s2, s3]
  refine tkD HT 4 18 (v := ?_) ?_ ?_
  rotate_left
  · (intro w5 hSw; go_simp; (try with_reducible rfl))
  try simp only [s1, s2, s3]
  refine tkD HT 5 19 (v := ?_) ?_ ?_
  rotate_left
  · (intro w5 hSw; have q6 := keepc' g6 (show Below Y.heap.size Y w5 from hSw); go_simp; (try with_reducible rfl))
  try simp only [s1, s2, s3]
  refine tkD HT 6 20 (v := ?_) ?_ ?_
  rotate_left
  · (intro w5 hSw; go_simp; (try with_reducible rfl))
  try simp only [s1, s2, s3]
  refine tkD HT 7 21 (v := ?_) ?_ ?_
  rotate_left
  · (intro w5 hSw; go_simp; (try with_reducible rfl))
  try simp only [s1, s2, s3]
  refine tkD HT 9 23 (v := ?_) ?_ ?_
  rotate_left
  · (intro w5 hSw; go_simp; (try with_reducible rfl))
  try simp only [s1, s2, s3]
  refine tkD HT 10 24 (v := ?_) ?_ ?_
  rotate_left
  · (intro w5 hSw; go_simp; (try with_reducible rfl))
  try simp only [s1, s2, s3]
  refine tkD HT 11 25 (v := ?_) ?_ ?_
  rotate_left
  · (intro w5 hSw; go_simp; (try with_reducible rfl))
  try simp only [s1, s2, s3]
  refine tkD HT 12 26 (v := ?_) ?_ ?_
  rotate_left
  · (intro w5 hSw; have q6 := keepc' g6 (show Below Y.heap.size Y w5 from hSw); go_simp; (try with_reducible rfl))
  try simp only [s1, s2, s3]
  refine tkD HT 13 27 (v := ?_) ?_ ?_
  rotate_left
  · (intro w5 hSw; go_simp; (try with_reducible rfl))
  try simp only [s1, s2, s3]
  refine tkD HT 14 28 (v := ?_) ?_ ?_
  rotate_left
  · (intro w5 hSw; go_simp; (try with_reducible rfl))
  try simp only [s1, s2, s3]
  refine tkD HT 15 29 (v := ?_) ?_ ?_
  rotate_left
  · (intro w5 hSw; go_simp; (try with_reducible rfl))
  try simp only [s1, s2, s3]
  refine tkS 1 (fun K5 hK => ?_)
  go_simp
  refine hK.out _ _ ((Below.refl _ Y).drew.trans (bel1 Y.drew (.cells #[] 92))) (fun hS1 => ?_)
  clear hK K5
  try simp only [Act.put, s1, s2, s3]
  have o0 : OwnL encY 28 92 (World.drew (World.alloc Y (.cells #[] 92))) Y.heap.size (.slice (some ⟨Y.heap.size, 0, none⟩) 0 0) [] := World.ownsRow_made Y.drew #[] 0 (Nat.le_refl _) (Nat.zero_le _) rfl
  have b0 : Below Y.heap.size Y (World.drew (World.alloc Y (.cells #[] 92))) := (Below.refl _ Y).drew.trans (bel1 Y.drew (.cells #[] 92))
  generalize (World.drew (World.alloc Y (.cells #[] 92))) = V1 at *
  have O0 := Lib.hid o0
  have B0 := Lib.hid b0
  clear o0 b0
  refine tkS 8 (fun K5 hK => ?_)
  refine step_app EY TY rfl (.tmp 15) (.tmp 21) rfl rfl O0.out (some ⟨g, 0, none⟩) i cap (ys.take i) HL1.out rfl (HT1.out.below B0.out) (by simp) (by rw [HL1.out]; have := HLM.out; simp; omega) (by rw [HL1.out]; have := HLM.out; unfold maxLen; simp; omega) B0.out.size ?_
  intro v1 w1 ho hg hf
  have O1 := Lib.hid ho
  have B1 := Lib.hid (B0.out.grown hg B0.out.size (fun j hj => (World.ownsRow.lt O0.out j hj).1))
  refine hK.out _ _ B1.out (fun hS2 => ?_)
  clear hK K5 ho hg hf
  try simp only [Act.put, s1, s2, s3]
  refine tkS 16 (fun K5 hK => ?_)
  refine step_app EY TY rfl (.tmp 22) (.tmp 29) rfl rfl O1.out (some A) (M - (i + 1)) (cap - (i + 1)) (ys.drop (i + 1)) HL2.out rfl (HT2.out.below B1.out) (by simp) (by rw [List.nil_append, HL1.out, HL2.out]; have := HLM.out; omega) (by rw [List.nil_append, HL1.out, HL2.out]; have := HLM.out; unfold maxLen; omega) B1.out.size ?_
  intro v2 w2 ho hg hf
  rw [List.nil_append] at ho
  have O2 := Lib.hid ho
  have B2 := Lib.hid (B1.out.grown hg B1.out.size (fun j hj => (World.ownsRow.lt O1.out j hj).1))
  have G2 := Lib.hid (HY.out.nets (OwnL.mono O2.out HBS.out) (Mod.bel (S := fun _ => False) B2.out) (fun b e => e.elim) (fun g hg => .inr (World.ownsRow.lt O2.out g hg).1) HCU.out)
  refine hK.out _ _ B2.out (fun hS3 => ?_)
  clear hK K5 ho hg hf
  try simp only [Act.put, s1, s2, s3]
  have z1 := (cell_of G2.out.1 6 rfl).1
  have z2 := (cell_of G2.out.1 6 rfl).2
  obtain ⟨sa2, sc2, hv2, -, -⟩ := O2.out.sli EY
  obtain ⟨N2, hN2⟩ : ∃ N2, N2 = (ys.take i ++ ys.drop (i + 1)).length := ⟨_, rfl⟩
  rw [← hN2] at hv2
  clear hN2
  subst hv2
  refine tkL 17 (fun K5 hK => ?_)
  go_simp
  refine hK.out _ _ ?_
  clear hK K5
  try simp only [Act.put, s1, s2, s3]
  refine tkL 18 (fun K5 hK => ?_)
  go_simp
  refine hK.out _ _ ?_
  clear hK K5
  try simp only [Act.put, s1, s2, s3]
  refine tkL 19 (fun K5 hK => ?_)
  go_simp
  refine hK.out _ _ ?_
  clear hK K5
  try simp only [Act.put, s1, s2, s3]
  refine wpAnyM_done (by kernel_rfl) (NoPanic.normal ?_)
  clear hw1 hw2 hw3 hw4
  have g3 := G2.out.2
  rw [HER.out] at g3
  have HZ := Lib.hid g3.1
  have HMZ := Lib.hid g3.2.1
  have HFZ := Lib.hid g3.2.2
  have HBZ := Lib.hid ((Mod.cellOf q 6 (.slice sa2 N2 sc2)).heap (blk_below HBX.out B2.out) (fun e => HNB.out (e ▸ .inl rfl)))
  clear g3 z1 z2 g6 hS0 hS1 hS2 hS3 HT G2 O0 O1 O2
  generalize w2.setCell ⟨q, 6, none⟩ (.slice sa2 N2 sc2) = Z at *
  have k1 := (cell_of HBZ.out 1 (v := .int .i64 (n : Int)) rfl).1
  have hn0 : decide ((n : Int) < 0) = false := decide_eq_false (by omega)
  have hn3 : decide (3 ≤ (n : Int)) = false := decide_eq_false (by omega)
  have HXE := Lib.hid (HYE'.out.mod HMZ.out (fun b hb => .inl (KF.vot hn hb)) : EAt Z (CF (V n).p (V n).lv NIL NIL) x)
  have HBO := Lib.hid (show ¬ KF q V { l with nv := .slice sa2 N2 sc2 } bx from fun hk => by
    rcases HFZ.out bx hk with d | d
    · exact HNB.out d
    · have := blk_lt HBX.out; omega)
  go_upto_region 4 with fail
  have g1 := (HZ.out.cells hn).1
  unfold ptr at g1
  have g2 := (HZ.out.cells hn).2.1
  have hkk := HOK.out.clk n hn
  have HS0 := Lib.hid (show ∀ W, Below Z.heap.size Z W → DelS bx q n (V n).p (k.clk n) src x W from fun W hb => ⟨blk_below HBZ.out hb, keepc' g1 hb, keepc' g2 hb⟩)
  have HHD := Lib.hid (fun W (hb : Below Z.heap.size Z W) => handle_any x.m x.ea x.m.ents.length x.ec zr src (k.clk n) draw (i64c hkk.1 (by omega)) HDR.out ((HZ.out.below hb).co n hn).wg (ok_wg (HOK.out.ok n hn) W.heap.size) HMO.out rfl (HXE.out.mod (Mod.bel hb) (fun _ hk => .inl hk)))
  have HEV := Lib.hid (And.intro (eve_handle (k.co n) src x.m (k.clk n) draw) (handle_few3 (k.co n) src x.m (k.clk n) draw))
  have HGD : Hid (((k.co n).handle src x.m (k.clk n) draw).gh = 0) := (gh_handle _ _ _ _ _).trans (HOK.out.gh n hn)
  have HTS := Lib.hid (fun W w8 {e : Ending} (hb : Below Z.heap.size Z W) (hO : OutP base (V n).p (V n).lv (((k.co n).wg W.heap.size).handle src x.m (k.clk n) draw) W e w8) => turn_sent (HZ.out.below hb) hn HGD.out (Co.wg_handle (k.co n) W.heap.size src x.m (k.clk n) draw ▸ hO))
  have HDN := HDL
  rw [show ((⟨src, (n : Int), x⟩ : RY).dst.toNat) = n from Int.toNat_natCast n] at HDN
  change Hid (k.delN i draw = ({ k with net := k.net.eraseIdx i, co := upd k.co n ((k.co n).handle src x.m (k.clk n) draw) } : Clu).sentN n) at HDN
  have hnl : (k.net.eraseIdx i).length ≤ 200 := Nat.le_trans (List.length_eraseIdx_le k.net i) HOK.out.net
  have HNL := Lib.hid hnl
  clear g1 g2 hkk HDL k1 hn0 hn3 hnl
  generalize (k.co n).handle src x.m (k.clk n) draw = d at *
  refine wp_region_noPanic ?_
  refine wp_region_lim (DelS bx q n (V n).p (k.clk n) src x) (fun i => decide (i < 23)) (fun i => false) (by kernel_rfl) (by kernel_rfl) (HS0.out _ (Below.refl _ Z).drew) (fun HT hS0 => ?_)
  refine tkD HT 0 44 (v := ?_) ?_ ?_
  rotate_left
  · (intro w5 hSw; go_simp; (try with_reducible rfl))
  try simp only [s1, s2, s3]
  refine tkD HT 1 45 (v := ?_) ?_ ?_
  rotate_left
  · (intro w5 hSw; go_simp; (try with_reducible rfl))
  try simp only [s1, s2, s3]
  refine tkD HT 2 46 (v := ?_) ?_ ?_
  rotate_left
  · (intro w5 hSw; have q1 := (cell_of (show DelS bx q n (V n).p (k.clk n) src x w5 from hSw).1 1 (v := .int .i64 (n : Int)) rfl).1; go_simp; (try with_reducible rfl))
  try simp only [s1, s2, s3]
  refine tkD HT 3 47 (v := ?_) ?_ ?_
  rotate_left
  · (intro w5 hSw; go_simp; (try with_reducible rfl))
  try simp only [s1, s2, s3]
  refine tkD HT 4 48 (v := ?_) ?_ ?_
  rotate_left
  · (intro w5 hSw; go_simp; (try with_reducible rfl))
  try simp only [s1, s2, s3]
  refine tkD HT 5 49 (v := ?_) ?_ ?_
  rotate_left
  · (intro w5 hSw; have q1 := (cell_of (show DelS bx q n (V n).p (k.clk n) src x w5 from hSw).1 1 (v := .int .i64 (n : Int)) rfl).1; go_simp; (try with_reducible rfl))
  try simp only [s1, s2, s3]
  refine tkD HT 6 50 (v := ?_) ?_ ?_
  rotate_left
  · (intro w5 hSw; go_simp; (try with_reducible rfl))
  try simp only [s1, s2, s3]
  refine tkD HT 7 51 (v := ?_) ?_ ?_
  rotate_left
  · (intro w5 hSw; go_simp; (try with_reducible rfl))
  try simp only [s1, s2, s3]
  refine tkD HT 8 52 (v := ?_) ?_ ?_
  rotate_left
  · (intro w5 hSw; go_simp; (try with_reducible rfl))
  try simp only [s1, s2, s3]
  refine tkD HT 9 53 (v := ?_) ?_ ?_
  rotate_left
  · (intro w5 hSw; obtain ⟨-, q2, -⟩ := hSw; go_simp; (try with_reducible rfl))
  try simp only [s1, s2, s3]
  refine tkD HT 10 54 (v := ?_) ?_ ?_
  rotate_left
  · (intro w5 hSw; go_simp; (try with_reducible rfl))
  try simp only [s1, s2, s3]
  refine tkD HT 11 55 (v := ?_) ?_ ?_
  rotate_left
  · (intro w5 hSw; have q1 := (cell_of (show DelS bx q n (V n).p (k.clk n) src x w5 from hSw).1 0 (v := .int .i64 src) rfl).1; go_simp; (try with_reducible rfl))
  try simp only [s1, s2, s3]
  refine tkD HT 12 56 (v := ?_) ?_ ?_
  rotate_left
  · (intro w5 hSw; go_simp; (try with_reducible rfl))
  try simp only [s1, s2, s3]
  refine wpAnyM_takeD HT 13 57 (v := .agg #[.int .i64 x.m.kind, .int .u64 x.m.term, .int .i64 x.m.prev, .int .u64 x.m.pterm, .slice x.ea x.m.ents.length x.ec, .int .i64 x.m.commit, .bool x.m.yes, .int .i64 x.m.mat, .int .i64 x.m.stamp, .int .u64 0, .int .i64 0, .bool false, .slice none 0 0, .int .i64 0, .int .u64 0, .int .u64 0, .int .u64 0, .int .u64 0, .int .i64 0, .int .u64 0, .int .u64 0, .int .u64 0, .int .u64 0, .int .i64 0, .int .i64 0, .slice none 0 0]) rfl rfl (by kernel_rfl) (fun _ _ _ h => h) (yieldsIf_load_mid (S := (DelS bx q n (V n).p (k.clk n) src x)) (by kernel_rfl) 46 (.tmp 56) rfl bx 2 ?_ [.int .i64 x.m.kind, .int .u64 x.m.term, .int .i64 x.m.prev, .int .u64 x.m.pterm, .slice x.ea x.m.ents.length x.ec, .int .i64 x.m.commit, .bool x.m.yes, .int .i64 x.m.mat, .int .i64 x.m.stamp, .int .u64 0, .int .i64 0, .bool false, .slice none 0 0, .int .i64 0, .int .u64 0, .int .u64 0, .int .u64 0, .int .u64 0, .int .i64 0, .int .u64 0, .int .u64 0, .int .u64 0, .int .u64 0, .int .i64 0, .int .i64 0, .slice none 0 0] _ (fun w5 hSw => DelS.row hSw) Try.underlying46 rfl (by kernel_rfl)) (by assumption) ?_
  · rfl
  try simp only [s1, s2, s3]
  refine tkD HT 14 58 (v := ?_) ?_ ?_
  rotate_left
  · (intro w5 hSw; go_simp; (try with_reducible rfl))
  try simp only [s1, s2, s3]
  refine tkD HT 15 59 (v := ?_) ?_ ?_
  rotate_left
  · (intro w5 hSw; go_simp; (try with_reducible rfl))
  try simp only [s1, s2, s3]
  refine tkD HT 16 60 (v := ?_) ?_ ?_
  rotate_left
  · (intro w5 hSw; have q1 := (cell_of (show DelS bx q n (V n).p (k.clk n) src x w5 from hSw).1 1 (v := .int .i64 (n : Int)) rfl).1; go_simp; (try with_reducible rfl))
  try simp only [s1, s2, s3]
  refine tkD HT 17 61 (v := ?_) ?_ ?_
  rotate_left
  · (intro w5 hSw; go_simp; (try with_reducible rfl))
  try simp only [s1, s2, s3]
  refine tkD HT 18 62 (v := ?_) ?_ ?_
  rotate_left
  · (intro w5 hSw; go_simp; (try with_reducible rfl))
  try simp only [s1, s2, s3]
  refine tkD HT 19 63 (v := ?_) ?_ ?_
  rotate_left
  · (intro w5 hSw; go_simp; (try with_reducible rfl))
  try simp only [s1, s2, s3]
  refine tkD HT 20 64 (v := ?_) ?_ ?_
  rotate_left
  · (intro w5 hSw; obtain ⟨-, -, q2⟩ := hSw; go_simp; (try with_reducible rfl))
  try simp only [s1, s2, s3]
  refine tkD HT 21 65 (v := ?_) ?_ ?_
  rotate_left
  · (intro w5 hSw; go_simp; (try with_reducible rfl))
  try simp only [s1, s2, s3]
  refine tkS 22 (fun K5 hK => ?_)
  go_simp
  go_at_call 17
  refine (HHD.out _ (Below.refl _ Z).drew).mono ?_
  intro e w8 hO
  obtain ⟨V', a, cap2, os, rfl, t1, t2, t3, t4, t5, t6, t7⟩ := HTS.out _ _ (Below.refl _ Z).drew hO
  have S1 := Lib.hid t1
  have S2 := Lib.hid t2
  have S3 := Lib.hid t3
  have S4 := Lib.hid t4
  have S5 := Lib.hid t5
  have S6 := Lib.hid t6
  have hs8 : DelS bx q n (V n).p (k.clk n) src x w8 := ⟨t2.heap (blk_below HBZ.out (Below.refl _ Z).drew) HBO.out, by have h9 := (t1.cells hn).1; rw [t7 n] at h9; exact h9, (t1.cells hn).2.1⟩
  clear t1 t2 t3 t4 t5 t6 t7 hO
  dsimp only
  refine hK.out _ _ hs8 (fun hS1 => ?_)
  clear hK K5 hs8
  try simp only [Act.put, s1, s2, s3]
  refine tkL 23 (fun K5 hK => ?_)
  go_simp
  go_at_call 69
  refine (sent_of S1.out n hn (upd_at _ _ _) S4.out S5.out HEV.out.1 a d.out.length cap2 rfl (by have := HEV.out.2; omega) S6.out HNL.out).mono ?_
  rintro e w9 ⟨rfl, hU⟩
  have HU := Lib.hid hU
  clear hU
  dsimp only
  refine hK.out _ _ ?_
  clear hK K5
  try simp only [Act.put, s1, s2, s3]
  refine wpAnyM_done (by kernel_rfl) (NoPanic.normal ?_)
  go_wp2
  go_end0
  refine ⟨rfl, ?_⟩
  rw [HDN.out]
  have hwy : Below w.heap.size w Y := by rw [HWX.out]; exact HWY.out
  refine KUpd.then (Mod.bel hwy) (fun b hb => .inl hb) (KUpd.then HMZ.out (fun b hb => (HFZ.out b hb)) ?_)
  exact (KUpd.then (Mod.bel (Below.refl _ Z).drew) (fun b hb => .inl hb) (KUpd.then S2.out S3.out HU.out))
end Go.Proofs.Ytcleaamjfjnkkaa
