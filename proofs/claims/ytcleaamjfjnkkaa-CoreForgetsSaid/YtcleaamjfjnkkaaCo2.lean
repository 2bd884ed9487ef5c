/- A message is sent. -/
import Derived.Test.YtcleaamjfjnkkaaCo1
import Derived.Test.YtcleaamjfjnkkaaLibA
namespace Go.Proofs.Ytcleaamjfjnkkaa
open Go.RowKit Go.Joins

section
variable {w V V' : World} {base p : Nat} {lv ov tv ov1 tv1 v1 : Value} {os os1 os2 : List RM} {ds1 ds2 : List Int} {c : Co}
/-- while both rows grow. -/
structure Mid (w : World) (base p : Nat) (lv ov tv : Value) (c : Co) (ov1 : Value) (os1 : List RM) (tv1 : Value) (ds1 : List Int) (V : World) : Prop where
  mod : Mod (CF p lv ov tv) w V
  blk : V.heap[p]? = some (.cells (coA c lv ov tv) 76 (0, 0))
  log : OwnE V base lv c.log
  out : OwnL encM 26 46 V base ov1 os1
  dst : OwnL encI 1 3 V base tv1 ds1
  f1 : ∀ g, ov1.ownBlock = some g → ov.ownBlock = some g ∨ w.heap.size ≤ g
  f2 : ∀ g, tv1.ownBlock = some g → tv.ownBlock = some g ∨ w.heap.size ≤ g
  low : base ≤ V.heap.size
theorem mid0 (h : CAt w base p lv ov tv os c) : Mid w base p lv ov tv c ov os tv c.dest w :=
  ⟨Mod.refl _ _, h.blk, h.log, h.out, h.dst, fun _ h => .inl h, fun _ h => .inl h, by have := h.toCL.lt.1; omega⟩
theorem Mid.below (h : Mid w base p lv ov tv c ov1 os1 tv1 ds1 V) (hb : Below V.heap.size V V') : Mid w base p lv ov tv c ov1 os1 tv1 ds1 V' :=
  ⟨h.mod.trans (Mod.bel hb), blk_below h.blk hb, (Mod.belowAll hb).own h.log (fun _ _ c => c), h.out.below hb, h.dst.below hb, h.f1, h.f2, Nat.le_trans h.low hb.size⟩
theorem Mid.grow {row : Option Nat} (h : Mid w base p lv ov tv c ov1 os1 tv1 ds1 V) (hg : V.grownBy V' row) (hr : ∀ k, row = some k → k ≠ p ∧ lv.ownBlock ≠ some k ∧ (CF p lv ov tv k ∨ w.heap.size ≤ k)) :
    Mod (CF p lv ov tv) w V' ∧ V'.heap[p]? = some (.cells (coA c lv ov tv) 76 (0, 0)) ∧ OwnE V' base lv c.log ∧ base ≤ V'.heap.size := by
  have hm : Mod (fun k => row = some k) V V' := Mod.grown hg (fun k e => e)
  refine ⟨h.mod.then hm (fun i hi e => ?_), hm.heap h.blk (fun e => (hr p e).1 rfl), hm.own h.log (fun g hgg e => (hr g e).2.1 hgg), Nat.le_trans h.low hm.size⟩
  rcases (hr i e).2.2 with d | d
  · exact d
  · omega
theorem Mid.msg (h : Mid w base p lv ov tv c ov1 os1 tv1 ds1 V) (ho : OwnL encM 26 46 V' base v1 os2) (hg : V.grownBy V' ov1.ownBlock) (hf : ∀ g, v1.ownBlock = some g → ov1.ownBlock = some g ∨ V.heap.size ≤ g) : Mid w base p lv ov tv c v1 os2 tv1 ds1 V' := by
  have hl : ∀ g, lv.ownBlock = some g → ∃ cur, V.heap[g]? = some (.cells cur 30 (0, 0)) := fun g hg => (OwnL.block (enc := encE) h.log hg).2
  obtain ⟨k1, k2, k3, k4⟩ := h.grow hg (fun k e => ⟨fun c => ownR_not h.out h.blk (fun cs e => by simp at e) (c ▸ e), fun c => by obtain ⟨cur, hc⟩ := hl k c; exact ownR_not h.out hc (fun cs e => by simp at e) e, by rcases h.f1 k e with d | d; exact .inl (.inr (.inr (.inl d))); exact .inr d⟩)
  have hm : Mod (fun k => ov1.ownBlock = some k) V V' := Mod.grown hg (fun k e => e)
  refine ⟨k1, k2, k3, ho, hm.own h.dst (fun g hgg e => ?_), fun g hgg => ?_, h.f2, k4⟩
  · obtain ⟨_, cur, hc⟩ := h.out.block e
    exact ownR_not h.dst hc (fun cs e => by simp at e) hgg
  · rcases hf g hgg with d | d
    · exact h.f1 g d
    · exact .inr (Nat.le_trans h.mod.size d)
theorem Mid.num (h : Mid w base p lv ov tv c ov1 os1 tv1 ds1 V) (ho : OwnL encI 1 3 V' base v1 ds2) (hg : V.grownBy V' tv1.ownBlock) (hf : ∀ g, v1.ownBlock = some g → tv1.ownBlock = some g ∨ V.heap.size ≤ g) : Mid w base p lv ov tv c ov1 os1 v1 ds2 V' := by
  have hl : ∀ g, lv.ownBlock = some g → ∃ cur, V.heap[g]? = some (.cells cur 30 (0, 0)) := fun g hg => (OwnL.block (enc := encE) h.log hg).2
  obtain ⟨k1, k2, k3, k4⟩ := h.grow hg (fun k e => ⟨fun c => ownR_not h.dst h.blk (fun cs e => by simp at e) (c ▸ e), fun c => by obtain ⟨cur, hc⟩ := hl k c; exact ownR_not h.dst hc (fun cs e => by simp at e) e, by rcases h.f2 k e with d | d; exact .inl (.inr (.inr (.inr d))); exact .inr d⟩)
  have hm : Mod (fun k => tv1.ownBlock = some k) V V' := Mod.grown hg (fun k e => e)
  refine ⟨k1, k2, k3, hm.own h.out (fun g hgg e => ?_), ho, h.f1, fun g hgg => ?_, k4⟩
  · obtain ⟨_, cur, hc⟩ := h.dst.block e
    exact ownR_not h.out hc (fun cs e => by simp at e) hgg
  · rcases hf g hgg with d | d
    · exact h.f2 g d
    · exact .inr (Nat.le_trans h.mod.size d)
theorem Mid.cells (h : Mid w base p lv ov tv c ov1 os1 tv1 ds1 V) : V.cell? ⟨p, 29, none⟩ = some ov ∧ V.cell? ⟨p, 30, none⟩ = some tv ∧ V.frozen? ⟨p, 29, none⟩ = false ∧ V.frozen? ⟨p, 30, none⟩ = false :=
  ⟨(cell_of h.blk 29 rfl).1, (cell_of h.blk 30 rfl).1, (cell_of h.blk 29 (v := ov) rfl).2, (cell_of h.blk 30 (v := tv) rfl).2⟩
theorem Mid.fin {t : Int} {y : RM} (h0 : CAt w base p lv ov tv os c) (hy : EAt w (SF c p lv ov tv) y) (h : Mid w base p lv ov tv c ov1 (os ++ [y]) tv1 (c.dest ++ [t]) V) (m : Mg) (hm : y.m = { m with term := c.term }) :
    CUpd base p lv ov tv (c.send t m) w ((V.setCell ⟨p, 29, none⟩ ov1).setCell ⟨p, 30, none⟩ tv1) := by
  have hM : Mod (fun k => k = p) V ((V.setCell ⟨p, 29, none⟩ ov1).setCell ⟨p, 30, none⟩ tv1) := (Mod.cellOf p 29 _).trans (Mod.cellOf p 30 _)
  have n1 : lv.ownBlock ≠ some p := ownR_not h.log h.blk (fun cs e => by simp at e)
  have n2 : ov1.ownBlock ≠ some p := ownR_not h.out h.blk (fun cs e => by simp at e)
  have n3 : tv1.ownBlock ≠ some p := ownR_not h.dst h.blk (fun cs e => by simp at e)
  have hmod : Mod (CF p lv ov tv) w ((V.setCell ⟨p, 29, none⟩ ov1).setCell ⟨p, 30, none⟩ tv1) := h.mod.then hM (fun i _ e => .inl e)
  have hfr : ∀ k, CF p lv ov1 tv1 k → CF p lv ov tv k ∨ w.heap.size ≤ k := by
    rintro k (d | d | d | d)
    · exact .inl (.inl d)
    · exact .inl (.inr (.inl d))
    · exact (h.f1 k d).imp (fun e => .inr (.inr (.inl e))) id
    · exact (h.f2 k d).imp (fun e => .inr (.inr (.inr e))) id
  refine ⟨lv, ov1, tv1, os ++ [y], { blk := ?_, bp := h0.bp, log := hM.own h.log (fun g hg e => n1 (e ▸ hg)), out := hM.own h.out (fun g hg e => n2 (e ▸ hg)), dst := hM.own h.dst (fun g hg e => n3 (e ▸ hg)), ghl := Nat.le_trans h0.ghl hmod.size, eq := ?_, ents := fun x hx => ?_ }, hmod, hfr⟩
  · rw [setCell_blk (setCell_blk h.blk)]; rfl
  · rw [List.map_append, h0.eq]; simp [Co.send, hm]
  · rcases List.mem_append.1 hx with hx | hx
    · exact (h0.ents x hx).mod (hmod.mono (fun _ _ e => .inl e)) (sf_step rfl hfr)
    · obtain rfl := List.mem_singleton.1 hx
      exact hy.mod (hmod.mono (fun _ _ e => .inl e)) (sf_step rfl hfr)
end
/-- the message lies in a box. -/
def Boxed (nb : Nat) (x : RM) (t : Int) (V : World) : Prop := V.heap[nb]? = some (.cells #[.int .i64 x.m.kind, .int .u64 t, .int .i64 x.m.prev, .int .u64 x.m.pterm, .slice x.ea x.m.ents.length x.ec, .int .i64 x.m.commit, .bool x.m.yes, .int .i64 x.m.mat, .int .i64 x.m.stamp, .int .u64 0, .int .i64 0, .bool false, .slice none 0 0, .int .i64 0, .int .u64 0, .int .u64 0, .int .u64 0, .int .u64 0, .int .i64 0, .int .u64 0, .int .u64 0, .int .u64 0, .int .u64 0, .int .i64 0, .int .i64 0, .slice none 0 0] 46 (0, 0))
theorem Boxed.grow {nb : Nat} {x : RM} {t : Int} {V V' : World} {row : Option Nat} (h : Boxed nb x t V) (hg : V.grownBy V' row) (hr : row ≠ some nb) : Boxed nb x t V' := (Mod.grown (S := fun k => row = some k) hg (fun _ e => e)).heap h hr
theorem Boxed.below {nb : Nat} {x : RM} {t : Int} {V V' : World} (h : Boxed nb x t V) (hb : Below V.heap.size V V') : Boxed nb x t V' := blk_below h hb
def SendS (p nb : Nat) (ov tv : Value) (x : RM) (ct : Int) (w' : World) : Prop := (w'.cell? ⟨p, 29, none⟩ = some ov ∧ w'.cell? ⟨p, 30, none⟩ = some tv) ∧ Boxed nb x ct w'
theorem Boxed.cells {nb : Nat} {x : RM} {t : Int} {V : World} (hb : Boxed nb x t V) : V.cell? ⟨nb, 0, none⟩ = some (.int .i64 x.m.kind) ∧ V.cell? ⟨nb, 1, none⟩ = some (.int .u64 t) ∧ V.cell? ⟨nb, 2, none⟩ = some (.int .i64 x.m.prev) ∧ V.cell? ⟨nb, 3, none⟩ = some (.int .u64 x.m.pterm) ∧ V.cell? ⟨nb, 4, none⟩ = some (.slice x.ea x.m.ents.length x.ec) ∧ V.cell? ⟨nb, 5, none⟩ = some (.int .i64 x.m.commit) ∧ V.cell? ⟨nb, 6, none⟩ = some (.bool x.m.yes) ∧ V.cell? ⟨nb, 7, none⟩ = some (.int .i64 x.m.mat) ∧ V.cell? ⟨nb, 8, none⟩ = some (.int .i64 x.m.stamp) ∧ V.cell? ⟨nb, 9, none⟩ = some (.int .u64 0) ∧ V.cell? ⟨nb, 10, none⟩ = some (.int .i64 0) ∧ V.cell? ⟨nb, 11, none⟩ = some (.bool false) ∧ V.cell? ⟨nb, 12, none⟩ = some (.slice none 0 0) ∧ V.cell? ⟨nb, 13, none⟩ = some (.int .i64 0) ∧ V.cell? ⟨nb, 14, none⟩ = some (.int .u64 0) ∧ V.cell? ⟨nb, 15, none⟩ = some (.int .u64 0) ∧ V.cell? ⟨nb, 16, none⟩ = some (.int .u64 0) ∧ V.cell? ⟨nb, 17, none⟩ = some (.int .u64 0) ∧ V.cell? ⟨nb, 18, none⟩ = some (.int .i64 0) ∧ V.cell? ⟨nb, 19, none⟩ = some (.int .u64 0) ∧ V.cell? ⟨nb, 20, none⟩ = some (.int .u64 0) ∧ V.cell? ⟨nb, 21, none⟩ = some (.int .u64 0) ∧ V.cell? ⟨nb, 22, none⟩ = some (.int .u64 0) ∧ V.cell? ⟨nb, 23, none⟩ = some (.int .i64 0) ∧ V.cell? ⟨nb, 24, none⟩ = some (.int .i64 0) ∧ V.cell? ⟨nb, 25, none⟩ = some (.slice none 0 0) :=
  ⟨(cell_of hb 0 rfl).1, (cell_of hb 1 rfl).1, (cell_of hb 2 rfl).1, (cell_of hb 3 rfl).1, (cell_of hb 4 rfl).1, (cell_of hb 5 rfl).1, (cell_of hb 6 rfl).1, (cell_of hb 7 rfl).1, (cell_of hb 8 rfl).1, (cell_of hb 9 rfl).1, (cell_of hb 10 rfl).1, (cell_of hb 11 rfl).1, (cell_of hb 12 rfl).1, (cell_of hb 13 rfl).1, (cell_of hb 14 rfl).1, (cell_of hb 15 rfl).1, (cell_of hb 16 rfl).1, (cell_of hb 17 rfl).1, (cell_of hb 18 rfl).1, (cell_of hb 19 rfl).1, (cell_of hb 20 rfl).1, (cell_of hb 21 rfl).1, (cell_of hb 22 rfl).1, (cell_of hb 23 rfl).1, (cell_of hb 24 rfl).1, (cell_of hb 25 rfl).1⟩
theorem send_S {w V : World} {base p nb : Nat} {lv ov tv ov1 tv1 : Value} {os1 : List RM} {ds1 : List Int} {c : Co} {x : RM} (h : Mid w base p lv ov tv c ov1 os1 tv1 ds1 V) (hb : Boxed nb x c.term V) :
    SendS p nb ov tv x c.term V := ⟨⟨h.cells.1, h.cells.2.1⟩, hb⟩
theorem lit1 (w : World) (y : RM) : Lst encM 26 (w.alloc (.cells (encM y).toArray 46)) (some ⟨w.heap.size, 0, none⟩) [y] := by
  have h := (sli_lit EM w [y] 1 _ 46 rfl rfl (by unfold maxLen; omega)).lst
  rwa [show flatOf encM [y] = encM y by simp [flatOf]] at h
theorem litI (w : World) (t : Int) : Lst encI 1 (w.alloc (.cells #[.int .i64 t] 3)) (some ⟨w.heap.size, 0, none⟩) [t] := (sli_lit EI w [t] 1 _ 3 rfl rfl (by unfold maxLen; omega)).lst
theorem lst_grow {α : Type} [Inhabited α] {enc : α → List Value} {sz b : Nat} {V V' : World} {row : Option Nat} {xs : List α} (h : Lst enc sz V (some ⟨b, 0, none⟩) xs) (hg : V.grownBy V' row) (hr : row ≠ some b) : Lst enc sz V' (some ⟨b, 0, none⟩) xs := by
  intro i hi
  obtain ⟨b', off, e, hc⟩ := h i hi
  obtain ⟨rfl, rfl⟩ : b = b' ∧ 0 = off := by simpa using e
  exact ⟨b, 0, rfl, hc.mod (Mod.grown (S := fun k => row = some k) hg (fun _ e => e)) hr⟩
set_option linter.unusedSimpArgs false in
set_option linter.unusedVariables false in
set_option maxHeartbeats 16000000 in
set_option maxRecDepth 100000 in
theorem send_any {w : World} {base p : Nat} {lv ov tv : Value} {os : List RM} {c : Co} (t : Int) (x : RM) (h : CAt w base p lv ov tv os c) (hx : EAt w (SF c p lv ov tv) x) (hl : os.length ≤ 100) (hd : c.dest.length ≤ 100) :
    Calls Try.prog 57 #[.pointer (some ⟨p, 0, none⟩), .int .i64 t, .agg #[.int .i64 x.m.kind, .int .u64 x.m.term, .int .i64 x.m.prev, .int .u64 x.m.pterm, .slice x.ea x.m.ents.length x.ec, .int .i64 x.m.commit, .bool x.m.yes, .int .i64 x.m.mat, .int .i64 x.m.stamp, .int .u64 0, .int .i64 0, .bool false, .slice none 0 0, .int .i64 0, .int .u64 0, .int .u64 0, .int .u64 0, .int .u64 0, .int .i64 0, .int .u64 0, .int .u64 0, .int .u64 0, .int .u64 0, .int .i64 0, .int .i64 0, .slice none 0 0]] w (Tup0 (CUpd base p lv ov tv (c.send t x.m) w)) := by
  obtain ⟨⟨-, g1', -⟩, -⟩ := h.toCL.cells
  have g1 := fun o => keepc' g1' (bel1 w o)
  clear g1'
  have HW0 := Lib.hid (bel1 w (.cells #[.int .i64 x.m.kind, .int .u64 c.term, .int .i64 x.m.prev, .int .u64 x.m.pterm, .slice x.ea x.m.ents.length x.ec, .int .i64 x.m.commit, .bool x.m.yes, .int .i64 x.m.mat, .int .i64 x.m.stamp, .int .u64 0, .int .i64 0, .bool false, .slice none 0 0, .int .i64 0, .int .u64 0, .int .u64 0, .int .u64 0, .int .u64 0, .int .i64 0, .int .u64 0, .int .u64 0, .int .u64 0, .int .u64 0, .int .i64 0, .int .i64 0, .slice none 0 0] 46))
  have HC := Lib.hid (h.below HW0.out)
  have B0 := Lib.hid (show Boxed w.heap.size x c.term (w.alloc (.cells #[.int .i64 x.m.kind, .int .u64 c.term, .int .i64 x.m.prev, .int .u64 x.m.pterm, .slice x.ea x.m.ents.length x.ec, .int .i64 x.m.commit, .bool x.m.yes, .int .i64 x.m.mat, .int .i64 x.m.stamp, .int .u64 0, .int .i64 0, .bool false, .slice none 0 0, .int .i64 0, .int .u64 0, .int .u64 0, .int .u64 0, .int .u64 0, .int .i64 0, .int .u64 0, .int .u64 0, .int .u64 0, .int .u64 0, .int .i64 0, .int .i64 0, .slice none 0 0] 46)) from heap_alloc_new w _)
  have HY := Lib.hid (show EAt (w.alloc (.cells #[.int .i64 x.m.kind, .int .u64 c.term, .int .i64 x.m.prev, .int .u64 x.m.pterm, .slice x.ea x.m.ents.length x.ec, .int .i64 x.m.commit, .bool x.m.yes, .int .i64 x.m.mat, .int .i64 x.m.stamp, .int .u64 0, .int .i64 0, .bool false, .slice none 0 0, .int .i64 0, .int .u64 0, .int .u64 0, .int .u64 0, .int .u64 0, .int .i64 0, .int .u64 0, .int .u64 0, .int .u64 0, .int .u64 0, .int .i64 0, .int .i64 0, .slice none 0 0] 46)) (SF c p lv ov tv) ⟨x.ea, x.ec, { x.m with term := c.term }⟩ from EAt.mod (x := ⟨x.ea, x.ec, { x.m with term := c.term }⟩) hx (Mod.bel HW0.out) (fun _ hk => .inl hk))
  have HLT := Lib.hid (show ∀ k, CF p lv ov tv k → k < (w.alloc (.cells #[.int .i64 x.m.kind, .int .u64 c.term, .int .i64 x.m.prev, .int .u64 x.m.pterm, .slice x.ea x.m.ents.length x.ec, .int .i64 x.m.commit, .bool x.m.yes, .int .i64 x.m.mat, .int .i64 x.m.stamp, .int .u64 0, .int .i64 0, .bool false, .slice none 0 0, .int .i64 0, .int .u64 0, .int .u64 0, .int .u64 0, .int .u64 0, .int .i64 0, .int .u64 0, .int .u64 0, .int .u64 0, .int .u64 0, .int .i64 0, .int .i64 0, .slice none 0 0] 46)).heap.size ∧ k ≠ w.heap.size from fun k hk => by have := (h.lt k hk).2; simp; omega)
  clear h hx
  go_enter Try.func57, Try.ntmps57
  go_upto_region 2 with fail
  generalize w.alloc (.cells #[.int .i64 x.m.kind, .int .u64 c.term, .int .i64 x.m.prev, .int .u64 x.m.pterm, .slice x.ea x.m.ents.length x.ec, .int .i64 x.m.commit, .bool x.m.yes, .int .i64 x.m.mat, .int .i64 x.m.stamp, .int .u64 0, .int .i64 0, .bool false, .slice none 0 0, .int .i64 0, .int .u64 0, .int .u64 0, .int .u64 0, .int .u64 0, .int .i64 0, .int .u64 0, .int .u64 0, .int .u64 0, .int .u64 0, .int .i64 0, .int .i64 0, .slice none 0 0] 46) = Y at *
  generalize hnb : w.heap.size = nb at B0 HLT ⊢
  generalize Value.agg #[.int .i64 x.m.kind, .int .u64 x.m.term, .int .i64 x.m.prev, .int .u64 x.m.pterm, .slice x.ea x.m.ents.length x.ec, .int .i64 x.m.commit, .bool x.m.yes, .int .i64 x.m.mat, .int .i64 x.m.stamp, .int .u64 0, .int .i64 0, .bool false, .slice none 0 0, .int .i64 0, .int .u64 0, .int .u64 0, .int .u64 0, .int .u64 0, .int .i64 0, .int .u64 0, .int .u64 0, .int .u64 0, .int .u64 0, .int .i64 0, .int .i64 0, .slice none 0 0] = pv
  have HNB := Lib.hid hnb
  clear hnb
  have M0 := Lib.hid (mid0 HC.out)
  refine wp_region_noPanic ?_
  refine wp_region_lim (SendS p nb ov tv x c.term) (fun i => decide (i < 16) && decide (i ≠ 1)) (fun i => decide (i = 1)) (by kernel_rfl) (by kernel_rfl) (send_S (M0.out.below (Below.refl _ _).drew) (B0.out.below (Below.refl _ _).drew)) (fun HT hS0 => ?_)
  refine tkF 1 13 (v := ?_) ?_ ?_
  rotate_left
  · (intro w5 hSw; go_simp; (try with_reducible rfl))
  try simp only [s1, s2, s3]
  refine tkD HT 0 12 (v := ?_) ?_ ?_
  rotate_left
  · (intro w5 hSw; obtain ⟨⟨q1, q2⟩, q3⟩ := hSw; clear q3; go_simp; (try with_reducible rfl))
  try simp only [s1, s2, s3]
  refine tkD HT 2 14 (v := ?_) ?_ ?_
  rotate_left
  · (intro w5 hSw; obtain ⟨⟨q1, q2⟩, q3⟩ := hSw; clear q3; go_simp; (try with_reducible rfl))
  try simp only [s1, s2, s3]
  refine tkD HT 3 15 (v := ?_) ?_ ?_
  rotate_left
  · (intro w5 hSw; obtain ⟨⟨q1, q2⟩, q3⟩ := hSw; clear q3; go_simp; (try with_reducible rfl))
  try simp only [s1, s2, s3]
  refine tkD HT 4 16 (v := ?_) ?_ ?_
  rotate_left
  · (intro w5 hSw; obtain ⟨⟨q1, q2⟩, q3⟩ := hSw; clear q3; go_simp; (try with_reducible rfl))
  try simp only [s1, s2, s3]
  refine tkD HT 5 17 (v := ?_) ?_ ?_
  rotate_left
  · (intro w5 hSw; obtain ⟨⟨q1, q2⟩, q3⟩ := hSw; clear q3; go_simp; (try with_reducible rfl))
  try simp only [s1, s2, s3]
  refine tkD HT 6 18 (v := ?_) ?_ ?_
  rotate_left
  · (intro w5 hSw; obtain ⟨⟨q1, q2⟩, q3⟩ := hSw; have q4 := q3; unfold Boxed at q4; refine exec_load_row 46 (.tmp 5) ?_ nb ?_ 46 _ (0, 0) _ q4 Try.underlying46 rfl ?_; rfl; rfl; kernel_rfl)
  try simp only [s1, s2, s3]
  refine tkD HT 9 21 (v := ?_) ?_ ?_
  rotate_left
  · (intro w5 hSw; obtain ⟨⟨q1, q2⟩, q3⟩ := hSw; clear q3; go_simp; (try with_reducible rfl))
  try simp only [s1, s2, s3]
  refine tkD HT 10 22 (v := ?_) ?_ ?_
  rotate_left
  · (intro w5 hSw; obtain ⟨⟨q1, q2⟩, q3⟩ := hSw; clear q3; go_simp; (try with_reducible rfl))
  try simp only [s1, s2, s3]
  refine tkD HT 11 23 (v := ?_) ?_ ?_
  rotate_left
  · (intro w5 hSw; obtain ⟨⟨q1, q2⟩, q3⟩ := hSw; clear q3; go_simp; (try with_reducible rfl))
  try simp only [s1, s2, s3]
  refine tkD HT 12 24 (v := ?_) ?_ ?_
  rotate_left
  · (intro w5 hSw; obtain ⟨⟨q1, q2⟩, q3⟩ := hSw; clear q3; go_simp; (try with_reducible rfl))
  try simp only [s1, s2, s3]
  refine tkD HT 13 25 (v := ?_) ?_ ?_
  rotate_left
  · (intro w5 hSw; obtain ⟨⟨q1, q2⟩, q3⟩ := hSw; clear q3; go_simp; (try with_reducible rfl))
  try simp only [s1, s2, s3]
  have M1 := Lib.hid (M0.out.below ((Below.refl _ Y).drew))
  have B1 := Lib.hid (B0.out.below ((Below.refl _ Y).drew))
  clear M0 B0
  refine wpAnyM_two 7 14 (by kernel_rfl) rfl rfl (fun K5 hK => ?_) (fun K5 hK => ?_)
  · go_simp
    refine hK.out _ _ (send_S (M1.out.below (bel1 _ (.cells #[.int .i64 x.m.kind, .int .u64 c.term, .int .i64 x.m.prev, .int .u64 x.m.pterm, .slice x.ea x.m.ents.length x.ec, .int .i64 x.m.commit, .bool x.m.yes, .int .i64 x.m.mat, .int .i64 x.m.stamp, .int .u64 0, .int .i64 0, .bool false, .slice none 0 0, .int .i64 0, .int .u64 0, .int .u64 0, .int .u64 0, .int .u64 0, .int .i64 0, .int .u64 0, .int .u64 0, .int .u64 0, .int .u64 0, .int .i64 0, .int .i64 0, .slice none 0 0] 46))) (B1.out.below (bel1 _ (.cells #[.int .i64 x.m.kind, .int .u64 c.term, .int .i64 x.m.prev, .int .u64 x.m.pterm, .slice x.ea x.m.ents.length x.ec, .int .i64 x.m.commit, .bool x.m.yes, .int .i64 x.m.mat, .int .i64 x.m.stamp, .int .u64 0, .int .i64 0, .bool false, .slice none 0 0, .int .i64 0, .int .u64 0, .int .u64 0, .int .u64 0, .int .u64 0, .int .i64 0, .int .u64 0, .int .u64 0, .int .u64 0, .int .u64 0, .int .i64 0, .int .i64 0, .slice none 0 0] 46)))) (fun hS1 => ?_)
    clear hK K5
    try simp only [Act.put, s1, s2, s3]
    have l1 : Lst encM 26 (World.drew (World.alloc Y (.cells #[.int .i64 x.m.kind, .int .u64 c.term, .int .i64 x.m.prev, .int .u64 x.m.pterm, .slice x.ea x.m.ents.length x.ec, .int .i64 x.m.commit, .bool x.m.yes, .int .i64 x.m.mat, .int .i64 x.m.stamp, .int .u64 0, .int .i64 0, .bool false, .slice none 0 0, .int .i64 0, .int .u64 0, .int .u64 0, .int .u64 0, .int .u64 0, .int .i64 0, .int .u64 0, .int .u64 0, .int .u64 0, .int .u64 0, .int .i64 0, .int .i64 0, .slice none 0 0] 46))) (some ⟨Y.heap.size, 0, none⟩) [⟨x.ea, x.ec, { x.m with term := c.term }⟩] := lit1 Y.drew ⟨x.ea, x.ec, { x.m with term := c.term }⟩
    have gl1 : Below Y.heap.size Y.drew (World.drew (World.alloc Y (.cells #[.int .i64 x.m.kind, .int .u64 c.term, .int .i64 x.m.prev, .int .u64 x.m.pterm, .slice x.ea x.m.ents.length x.ec, .int .i64 x.m.commit, .bool x.m.yes, .int .i64 x.m.mat, .int .i64 x.m.stamp, .int .u64 0, .int .i64 0, .bool false, .slice none 0 0, .int .i64 0, .int .u64 0, .int .u64 0, .int .u64 0, .int .u64 0, .int .i64 0, .int .u64 0, .int .u64 0, .int .u64 0, .int .u64 0, .int .i64 0, .int .i64 0, .slice none 0 0] 46))) := bel1 Y.drew (.cells #[.int .i64 x.m.kind, .int .u64 c.term, .int .i64 x.m.prev, .int .u64 x.m.pterm, .slice x.ea x.m.ents.length x.ec, .int .i64 x.m.commit, .bool x.m.yes, .int .i64 x.m.mat, .int .i64 x.m.stamp, .int .u64 0, .int .i64 0, .bool false, .slice none 0 0, .int .i64 0, .int .u64 0, .int .u64 0, .int .u64 0, .int .u64 0, .int .i64 0, .int .u64 0, .int .u64 0, .int .u64 0, .int .u64 0, .int .i64 0, .int .i64 0, .slice none 0 0] 46)
    have m1 : Mid Y base p lv ov tv c ov os tv c.dest (World.drew (World.alloc Y (.cells #[.int .i64 x.m.kind, .int .u64 c.term, .int .i64 x.m.prev, .int .u64 x.m.pterm, .slice x.ea x.m.ents.length x.ec, .int .i64 x.m.commit, .bool x.m.yes, .int .i64 x.m.mat, .int .i64 x.m.stamp, .int .u64 0, .int .i64 0, .bool false, .slice none 0 0, .int .i64 0, .int .u64 0, .int .u64 0, .int .u64 0, .int .u64 0, .int .i64 0, .int .u64 0, .int .u64 0, .int .u64 0, .int .u64 0, .int .i64 0, .int .i64 0, .slice none 0 0] 46))) := M1.out.below gl1
    have b1 : Boxed nb x c.term (World.drew (World.alloc Y (.cells #[.int .i64 x.m.kind, .int .u64 c.term, .int .i64 x.m.prev, .int .u64 x.m.pterm, .slice x.ea x.m.ents.length x.ec, .int .i64 x.m.commit, .bool x.m.yes, .int .i64 x.m.mat, .int .i64 x.m.stamp, .int .u64 0, .int .i64 0, .bool false, .slice none 0 0, .int .i64 0, .int .u64 0, .int .u64 0, .int .u64 0, .int .u64 0, .int .i64 0, .int .u64 0, .int .u64 0, .int .u64 0, .int .u64 0, .int .i64 0, .int .i64 0, .slice none 0 0] 46))) := B1.out.below gl1
    have kl1 : Y.heap.size < ((World.drew (World.alloc Y (.cells #[.int .i64 x.m.kind, .int .u64 c.term, .int .i64 x.m.prev, .int .u64 x.m.pterm, .slice x.ea x.m.ents.length x.ec, .int .i64 x.m.commit, .bool x.m.yes, .int .i64 x.m.mat, .int .i64 x.m.stamp, .int .u64 0, .int .i64 0, .bool false, .slice none 0 0, .int .i64 0, .int .u64 0, .int .u64 0, .int .u64 0, .int .u64 0, .int .i64 0, .int .u64 0, .int .u64 0, .int .u64 0, .int .u64 0, .int .i64 0, .int .i64 0, .slice none 0 0] 46)))).heap.size := by simp
    generalize (World.drew (World.alloc Y (.cells #[.int .i64 x.m.kind, .int .u64 c.term, .int .i64 x.m.prev, .int .u64 x.m.pterm, .slice x.ea x.m.ents.length x.ec, .int .i64 x.m.commit, .bool x.m.yes, .int .i64 x.m.mat, .int .i64 x.m.stamp, .int .u64 0, .int .i64 0, .bool false, .slice none 0 0, .int .i64 0, .int .u64 0, .int .u64 0, .int .u64 0, .int .u64 0, .int .i64 0, .int .u64 0, .int .u64 0, .int .u64 0, .int .u64 0, .int .i64 0, .int .i64 0, .slice none 0 0] 46))) = V1 at *
    have l1' := Lib.hid l1
    have gl1' := Lib.hid gl1
    have m1' := Lib.hid m1
    have b1' := Lib.hid b1
    have kl1' := Lib.hid kl1
    clear l1 m1 b1 gl1 kl1
    refine wpAnyM_two 8 14 (by kernel_rfl) rfl rfl (fun K5 hK => ?_) (fun K5 hK => ?_)
    · refine step_app EM TM rfl (.tmp 17) (.tmp 19) rfl rfl m1'.out.out (some ⟨Y.heap.size, 0, none⟩) 1 1 [⟨x.ea, x.ec, { x.m with term := c.term }⟩] rfl rfl l1'.out (by simp) (show (os.length + 1) * 256 ≤ 140737488355328 by omega) (show os.length + 1 ≤ maxLen by unfold maxLen; omega) m1'.out.low ?_
      intro v1 w1 ho hg hf
      have m2 := Lib.hid (m1'.out.msg ho hg hf)
      have b2 := Lib.hid (b1'.out.grow hg (fun e => (HLT.out nb (.inr (.inr (.inl e)))).2 rfl))
      refine hK.out _ _ (send_S m2.out b2.out) (fun hS1 => ?_)
      clear hK K5 ho hg hf
      try simp only [Act.put, s1, s2, s3]
      refine tkS 14 (fun K5 hK => ?_)
      go_simp
      refine hK.out _ _ (send_S (m2.out.below (bel1 _ (.cells #[.int .i64 t] 3))) (b2.out.below (bel1 _ (.cells #[.int .i64 t] 3)))) (fun hS1 => ?_)
      clear hK K5
      try simp only [Act.put, s1, s2, s3]
      have l3 : Lst encI 1 (World.alloc w1 (.cells #[.int .i64 t] 3)) (some ⟨w1.heap.size, 0, none⟩) [t] := litI w1 t
      have gl3 : Below w1.heap.size w1 (World.alloc w1 (.cells #[.int .i64 t] 3)) := bel1 w1 (.cells #[.int .i64 t] 3)
      have m3 : Mid Y base p lv ov tv c v1 (os ++ [⟨x.ea, x.ec, { x.m with term := c.term }⟩]) tv c.dest (World.alloc w1 (.cells #[.int .i64 t] 3)) := m2.out.below gl3
      have b3 : Boxed nb x c.term (World.alloc w1 (.cells #[.int .i64 t] 3)) := b2.out.below gl3
      have kl3 : w1.heap.size < ((World.alloc w1 (.cells #[.int .i64 t] 3))).heap.size := by simp
      generalize (World.alloc w1 (.cells #[.int .i64 t] 3)) = V3 at *
      have l3' := Lib.hid l3
      have gl3' := Lib.hid gl3
      have m3' := Lib.hid m3
      have b3' := Lib.hid b3
      have kl3' := Lib.hid kl3
      clear l3 m3 b3 gl3 kl3
      refine tkS 15 (fun K5 hK => ?_)
      refine step_app EI TI rfl (.tmp 24) (.tmp 26) rfl rfl m3'.out.dst (some ⟨w1.heap.size, 0, none⟩) 1 1 [t] rfl rfl l3'.out (by simp) (show (c.dest.length + 1) * 8 ≤ 140737488355328 by omega) (show c.dest.length + 1 ≤ maxLen by unfold maxLen; omega) m3'.out.low ?_
      intro v2 w2 ho hg hf
      have m4 := Lib.hid (m3'.out.num ho hg hf)
      have b4 := Lib.hid (b3'.out.grow hg (fun e => (HLT.out nb (.inr (.inr (.inr e)))).2 rfl))
      refine hK.out _ _ (send_S m4.out b4.out) (fun hS1 => ?_)
      clear hK K5 ho hg hf
      try simp only [Act.put, s1, s2, s3]
      obtain ⟨z1, z2, z3, z4⟩ := m4.out.cells
      obtain ⟨sa1, sc1, hv1, -, -⟩ := m4.out.out.sli EM
      obtain ⟨sa2, sc2, hv2, -, -⟩ := m4.out.dst.sli EI
      subst hv1 hv2
      refine tkL 16 (fun K5 hK => ?_)
      go_simp
      refine hK.out _ _ ?_
      clear hK K5
      try simp only [Act.put, s1, s2, s3]
      refine tkL 17 (fun K5 hK => ?_)
      go_simp
      refine hK.out _ _ ?_
      clear hK K5
      try simp only [Act.put, s1, s2, s3]
      refine tkL 18 (fun K5 hK => ?_)
      go_simp
      refine hK.out _ _ ?_
      clear hK K5
      try simp only [Act.put, s1, s2, s3]
      refine tkL 19 (fun K5 hK => ?_)
      go_simp
      refine hK.out _ _ ?_
      clear hK K5
      try simp only [Act.put, s1, s2, s3]
      refine tkL 20 (fun K5 hK => ?_)
      go_simp
      refine hK.out _ _ ?_
      clear hK K5
      try simp only [Act.put, s1, s2, s3]
      refine tkL 21 (fun K5 hK => ?_)
      go_simp
      refine hK.out _ _ ?_
      clear hK K5
      try simp only [Act.put, s1, s2, s3]
      refine wpAnyM_done (by kernel_rfl) (NoPanic.normal ?_)
      go_wp2
      go_end0
      have hfin := Mid.fin HC.out HY.out m4.out x.m rfl
      rw [List.length_append, List.length_append] at hfin
      exact ⟨rfl, CUpd.below HW0.out hfin⟩
    · go_simp
      refine hK.out _ _ (send_S (m1'.out.below (bel1 _ (.cells #[.int .i64 t] 3))) (b1'.out.below (bel1 _ (.cells #[.int .i64 t] 3)))) (fun hS1 => ?_)
      clear hK K5
      try simp only [Act.put, s1, s2, s3]
      have l2 : Lst encI 1 (World.alloc V1 (.cells #[.int .i64 t] 3)) (some ⟨V1.heap.size, 0, none⟩) [t] := litI V1 t
      have gl2 : Below V1.heap.size V1 (World.alloc V1 (.cells #[.int .i64 t] 3)) := bel1 V1 (.cells #[.int .i64 t] 3)
      have m2 : Mid Y base p lv ov tv c ov os tv c.dest (World.alloc V1 (.cells #[.int .i64 t] 3)) := m1'.out.below gl2
      have b2 : Boxed nb x c.term (World.alloc V1 (.cells #[.int .i64 t] 3)) := b1'.out.below gl2
      have kl2 : V1.heap.size < ((World.alloc V1 (.cells #[.int .i64 t] 3))).heap.size := by simp
      generalize (World.alloc V1 (.cells #[.int .i64 t] 3)) = V2 at *
      have l2' := Lib.hid l2
      have gl2' := Lib.hid gl2
      have m2' := Lib.hid m2
      have b2' := Lib.hid b2
      have kl2' := Lib.hid kl2
      clear l2 m2 b2 gl2 kl2
      refine tkS 8 (fun K5 hK => ?_)
      refine step_app EM TM rfl (.tmp 17) (.tmp 19) rfl rfl m2'.out.out (some ⟨Y.heap.size, 0, none⟩) 1 1 [⟨x.ea, x.ec, { x.m with term := c.term }⟩] rfl rfl (l1'.out.below gl2'.out) (by simp) (show (os.length + 1) * 256 ≤ 140737488355328 by omega) (show os.length + 1 ≤ maxLen by unfold maxLen; omega) m2'.out.low ?_
      intro v1 w1 ho hg hf
      have m3 := Lib.hid (m2'.out.msg ho hg hf)
      have b3 := Lib.hid (b2'.out.grow hg (fun e => (HLT.out nb (.inr (.inr (.inl e)))).2 rfl))
      have l5 := Lib.hid (lst_grow l2'.out hg (fun e => by have := (HLT.out _ (.inr (.inr (.inl e)))).1; have := kl1'.out; omega))
      refine hK.out _ _ (send_S m3.out b3.out) (fun hS1 => ?_)
      clear hK K5 ho hg hf
      try simp only [Act.put, s1, s2, s3]
      refine tkS 15 (fun K5 hK => ?_)
      refine step_app EI TI rfl (.tmp 24) (.tmp 26) rfl rfl m3.out.dst (some ⟨V1.heap.size, 0, none⟩) 1 1 [t] rfl rfl l5.out (by simp) (show (c.dest.length + 1) * 8 ≤ 140737488355328 by omega) (show c.dest.length + 1 ≤ maxLen by unfold maxLen; omega) m3.out.low ?_
      intro v2 w2 ho hg hf
      have m4 := Lib.hid (m3.out.num ho hg hf)
      have b4 := Lib.hid (b3.out.grow hg (fun e => (HLT.out nb (.inr (.inr (.inr e)))).2 rfl))
      refine hK.out _ _ (send_S m4.out b4.out) (fun hS1 => ?_)
      clear hK K5 ho hg hf
      try simp only [Act.put, s1, s2, s3]
      obtain ⟨z1, z2, z3, z4⟩ := m4.out.cells
      obtain ⟨sa1, sc1, hv1, -, -⟩ := m4.out.out.sli EM
      obtain ⟨sa2, sc2, hv2, -, -⟩ := m4.out.dst.sli EI
      subst hv1 hv2
      refine tkL 16 (fun K5 hK => ?_)
      go_simp
      refine hK.out _ _ ?_
      clear hK K5
      try simp only [Act.put, s1, s2, s3]
      refine tkL 17 (fun K5 hK => ?_)
      go_simp
      refine hK.out _ _ ?_
      clear hK K5
      try simp only [Act.put, s1, s2, s3]
      refine tkL 18 (fun K5 hK => ?_)
      go_simp
      refine hK.out _ _ ?_
      clear hK K5
      try simp only [Act.put, s1, s2, s3]
      refine tkL 19 (fun K5 hK => ?_)
      go_simp
      refine hK.out _ _ ?_
      clear hK K5
      try simp only [Act.put, s1, s2, s3]
      refine tkL 20 (fun K5 hK => ?_)
      go_simp
      refine hK.out _ _ ?_
      clear hK K5
      try simp only [Act.put, s1, s2, s3]
      refine tkL 21 (fun K5 hK => ?_)
      go_simp
      refine hK.out _ _ ?_
      clear hK K5
      try simp only [Act.put, s1, s2, s3]
      refine wpAnyM_done (by kernel_rfl) (NoPanic.normal ?_)
      go_wp2
      go_end0
      have hfin := Mid.fin HC.out HY.out m4.out x.m rfl
      rw [List.length_append, List.length_append] at hfin
      exact ⟨rfl, CUpd.below HW0.out hfin⟩
  · go_simp
    refine hK.out _ _ (send_S (M1.out.below (bel1 _ (.cells #[.int .i64 t] 3))) (B1.out.below (bel1 _ (.cells #[.int .i64 t] 3)))) (fun hS1 => ?_)
    clear hK K5
    try simp only [Act.put, s1, s2, s3]
    have l1 : Lst encI 1 (World.drew (World.alloc Y (.cells #[.int .i64 t] 3))) (some ⟨Y.heap.size, 0, none⟩) [t] := litI Y.drew t
    have gl1 : Below Y.heap.size Y.drew (World.drew (World.alloc Y (.cells #[.int .i64 t] 3))) := bel1 Y.drew (.cells #[.int .i64 t] 3)
    have m1 : Mid Y base p lv ov tv c ov os tv c.dest (World.drew (World.alloc Y (.cells #[.int .i64 t] 3))) := M1.out.below gl1
    have b1 : Boxed nb x c.term (World.drew (World.alloc Y (.cells #[.int .i64 t] 3))) := B1.out.below gl1
    have kl1 : Y.heap.size < ((World.drew (World.alloc Y (.cells #[.int .i64 t] 3)))).heap.size := by simp
    generalize (World.drew (World.alloc Y (.cells #[.int .i64 t] 3))) = V1 at *
    have l1' := Lib.hid l1
    have gl1' := Lib.hid gl1
    have m1' := Lib.hid m1
    have b1' := Lib.hid b1
    have kl1' := Lib.hid kl1
    clear l1 m1 b1 gl1 kl1
    refine tkS 7 (fun K5 hK => ?_)
    go_simp
    refine hK.out _ _ (send_S (m1'.out.below (bel1 _ (.cells #[.int .i64 x.m.kind, .int .u64 c.term, .int .i64 x.m.prev, .int .u64 x.m.pterm, .slice x.ea x.m.ents.length x.ec, .int .i64 x.m.commit, .bool x.m.yes, .int .i64 x.m.mat, .int .i64 x.m.stamp, .int .u64 0, .int .i64 0, .bool false, .slice none 0 0, .int .i64 0, .int .u64 0, .int .u64 0, .int .u64 0, .int .u64 0, .int .i64 0, .int .u64 0, .int .u64 0, .int .u64 0, .int .u64 0, .int .i64 0, .int .i64 0, .slice none 0 0] 46))) (b1'.out.below (bel1 _ (.cells #[.int .i64 x.m.kind, .int .u64 c.term, .int .i64 x.m.prev, .int .u64 x.m.pterm, .slice x.ea x.m.ents.length x.ec, .int .i64 x.m.commit, .bool x.m.yes, .int .i64 x.m.mat, .int .i64 x.m.stamp, .int .u64 0, .int .i64 0, .bool false, .slice none 0 0, .int .i64 0, .int .u64 0, .int .u64 0, .int .u64 0, .int .u64 0, .int .i64 0, .int .u64 0, .int .u64 0, .int .u64 0, .int .u64 0, .int .i64 0, .int .i64 0, .slice none 0 0] 46)))) (fun hS1 => ?_)
    clear hK K5
    try simp only [Act.put, s1, s2, s3]
    have l2 : Lst encM 26 (World.alloc V1 (.cells #[.int .i64 x.m.kind, .int .u64 c.term, .int .i64 x.m.prev, .int .u64 x.m.pterm, .slice x.ea x.m.ents.length x.ec, .int .i64 x.m.commit, .bool x.m.yes, .int .i64 x.m.mat, .int .i64 x.m.stamp, .int .u64 0, .int .i64 0, .bool false, .slice none 0 0, .int .i64 0, .int .u64 0, .int .u64 0, .int .u64 0, .int .u64 0, .int .i64 0, .int .u64 0, .int .u64 0, .int .u64 0, .int .u64 0, .int .i64 0, .int .i64 0, .slice none 0 0] 46)) (some ⟨V1.heap.size, 0, none⟩) [⟨x.ea, x.ec, { x.m with term := c.term }⟩] := lit1 V1 ⟨x.ea, x.ec, { x.m with term := c.term }⟩
    have gl2 : Below V1.heap.size V1 (World.alloc V1 (.cells #[.int .i64 x.m.kind, .int .u64 c.term, .int .i64 x.m.prev, .int .u64 x.m.pterm, .slice x.ea x.m.ents.length x.ec, .int .i64 x.m.commit, .bool x.m.yes, .int .i64 x.m.mat, .int .i64 x.m.stamp, .int .u64 0, .int .i64 0, .bool false, .slice none 0 0, .int .i64 0, .int .u64 0, .int .u64 0, .int .u64 0, .int .u64 0, .int .i64 0, .int .u64 0, .int .u64 0, .int .u64 0, .int .u64 0, .int .i64 0, .int .i64 0, .slice none 0 0] 46)) := bel1 V1 (.cells #[.int .i64 x.m.kind, .int .u64 c.term, .int .i64 x.m.prev, .int .u64 x.m.pterm, .slice x.ea x.m.ents.length x.ec, .int .i64 x.m.commit, .bool x.m.yes, .int .i64 x.m.mat, .int .i64 x.m.stamp, .int .u64 0, .int .i64 0, .bool false, .slice none 0 0, .int .i64 0, .int .u64 0, .int .u64 0, .int .u64 0, .int .u64 0, .int .i64 0, .int .u64 0, .int .u64 0, .int .u64 0, .int .u64 0, .int .i64 0, .int .i64 0, .slice none 0 0] 46)
    have m2 : Mid Y base p lv ov tv c ov os tv c.dest (World.alloc V1 (.cells #[.int .i64 x.m.kind, .int .u64 c.term, .int .i64 x.m.prev, .int .u64 x.m.pterm, .slice x.ea x.m.ents.length x.ec, .int .i64 x.m.commit, .bool x.m.yes, .int .i64 x.m.mat, .int .i64 x.m.stamp, .int .u64 0, .int .i64 0, .bool false, .slice none 0 0, .int .i64 0, .int .u64 0, .int .u64 0, .int .u64 0, .int .u64 0, .int .i64 0, .int .u64 0, .int .u64 0, .int .u64 0, .int .u64 0, .int .i64 0, .int .i64 0, .slice none 0 0] 46)) := m1'.out.below gl2
    have b2 : Boxed nb x c.term (World.alloc V1 (.cells #[.int .i64 x.m.kind, .int .u64 c.term, .int .i64 x.m.prev, .int .u64 x.m.pterm, .slice x.ea x.m.ents.length x.ec, .int .i64 x.m.commit, .bool x.m.yes, .int .i64 x.m.mat, .int .i64 x.m.stamp, .int .u64 0, .int .i64 0, .bool false, .slice none 0 0, .int .i64 0, .int .u64 0, .int .u64 0, .int .u64 0, .int .u64 0, .int .i64 0, .int .u64 0, .int .u64 0, .int .u64 0, .int .u64 0, .int .i64 0, .int .i64 0, .slice none 0 0] 46)) := b1'.out.below gl2
    have kl2 : V1.heap.size < ((World.alloc V1 (.cells #[.int .i64 x.m.kind, .int .u64 c.term, .int .i64 x.m.prev, .int .u64 x.m.pterm, .slice x.ea x.m.ents.length x.ec, .int .i64 x.m.commit, .bool x.m.yes, .int .i64 x.m.mat, .int .i64 x.m.stamp, .int .u64 0, .int .i64 0, .bool false, .slice none 0 0, .int .i64 0, .int .u64 0, .int .u64 0, .int .u64 0, .int .u64 0, .int .i64 0, .int .u64 0, .int .u64 0, .int .u64 0, .int .u64 0, .int .i64 0, .int .i64 0, .slice none 0 0] 46))).heap.size := by simp
    generalize (World.alloc V1 (.cells #[.int .i64 x.m.kind, .int .u64 c.term, .int .i64 x.m.prev, .int .u64 x.m.pterm, .slice x.ea x.m.ents.length x.ec, .int .i64 x.m.commit, .bool x.m.yes, .int .i64 x.m.mat, .int .i64 x.m.stamp, .int .u64 0, .int .i64 0, .bool false, .slice none 0 0, .int .i64 0, .int .u64 0, .int .u64 0, .int .u64 0, .int .u64 0, .int .i64 0, .int .u64 0, .int .u64 0, .int .u64 0, .int .u64 0, .int .i64 0, .int .i64 0, .slice none 0 0] 46)) = V2 at *
    have l2' := Lib.hid l2
    have gl2' := Lib.hid gl2
    have m2' := Lib.hid m2
    have b2' := Lib.hid b2
    have kl2' := Lib.hid kl2
    clear l2 m2 b2 gl2 kl2
    refine tkS 8 (fun K5 hK => ?_)
    refine step_app EM TM rfl (.tmp 17) (.tmp 19) rfl rfl m2'.out.out (some ⟨V1.heap.size, 0, none⟩) 1 1 [⟨x.ea, x.ec, { x.m with term := c.term }⟩] rfl rfl l2'.out (by simp) (show (os.length + 1) * 256 ≤ 140737488355328 by omega) (show os.length + 1 ≤ maxLen by unfold maxLen; omega) m2'.out.low ?_
    intro v1 w1 ho hg hf
    have m3 := Lib.hid (m2'.out.msg ho hg hf)
    have b3 := Lib.hid (b2'.out.grow hg (fun e => (HLT.out nb (.inr (.inr (.inl e)))).2 rfl))
    have l5 := Lib.hid (lst_grow (l1'.out.below gl2'.out) hg (fun e => by have := (HLT.out _ (.inr (.inr (.inl e)))).1; have := kl1'.out; omega))
    refine hK.out _ _ (send_S m3.out b3.out) (fun hS1 => ?_)
    clear hK K5 ho hg hf
    try simp only [Act.put, s1, s2, s3]
    refine tkS 15 (fun K5 hK => ?_)
    refine step_app EI TI rfl (.tmp 24) (.tmp 26) rfl rfl m3.out.dst (some ⟨Y.heap.size, 0, none⟩) 1 1 [t] rfl rfl l5.out (by simp) (show (c.dest.length + 1) * 8 ≤ 140737488355328 by omega) (show c.dest.length + 1 ≤ maxLen by unfold maxLen; omega) m3.out.low ?_
    intro v2 w2 ho hg hf
    have m4 := Lib.hid (m3.out.num ho hg hf)
    have b4 := Lib.hid (b3.out.grow hg (fun e => (HLT.out nb (.inr (.inr (.inr e)))).2 rfl))
    refine hK.out _ _ (send_S m4.out b4.out) (fun hS1 => ?_)
    clear hK K5 ho hg hf
    try simp only [Act.put, s1, s2, s3]
    obtain ⟨z1, z2, z3, z4⟩ := m4.out.cells
    obtain ⟨sa1, sc1, hv1, -, -⟩ := m4.out.out.sli EM
    obtain ⟨sa2, sc2, hv2, -, -⟩ := m4.out.dst.sli EI
    subst hv1 hv2
    refine tkL 16 (fun K5 hK => ?_)
    go_simp
    refine hK.out _ _ ?_
    clear hK K5
    try simp only [Act.put, s1, s2, s3]
    refine tkL 17 (fun K5 hK => ?_)
    go_simp
    refine hK.out _ _ ?_
    clear hK K5
    try simp only [Act.put, s1, s2, s3]
    refine tkL 18 (fun K5 hK => ?_)
    go_simp
    refine hK.out _ _ ?_
    clear hK K5
    try simp only [Act.put, s1, s2, s3]
    refine tkL 19 (fun K5 hK => ?_)
    go_simp
    refine hK.out _ _ ?_
    clear hK K5
    try simp only [Act.put, s1, s2, s3]
    refine tkL 20 (fun K5 hK => ?_)
    go_simp
    refine hK.out _ _ ?_
    clear hK K5
    try simp only [Act.put, s1, s2, s3]
    refine tkL 21 (fun K5 hK => ?_)
    go_simp
    refine hK.out _ _ ?_
    clear hK K5
    try simp only [Act.put, s1, s2, s3]
    refine wpAnyM_done (by kernel_rfl) (NoPanic.normal ?_)
    go_wp2
    go_end0
    have hfin := Mid.fin HC.out HY.out m4.out x.m rfl
    rw [List.length_append, List.length_append] at hfin
    exact ⟨rfl, CUpd.below HW0.out hfin⟩
end Go.Proofs.Ytcleaamjfjnkkaa
