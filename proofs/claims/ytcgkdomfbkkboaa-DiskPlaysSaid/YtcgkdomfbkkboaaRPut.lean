/- The reference: a sector is put. -/
import Derived.Test.YtcgkdomfbkkboaaRLeaf
namespace Go.Proofs.Ytcgkdomfbkkboaa
open Go.RowKit Go.Joins Go.ChangeMaps

def usesOf (u : Int) (x : BA) : Int := if x.size = 0 then u + 1 else u
theorem emptyB (x : BA) : (ByteArray.toList x).isEmpty = decide (x.size = 0) := by
  rw [ByteArray.toList_eq, Bool.eq_iff_iff, decide_eq_true_eq, List.isEmpty_iff_length_eq_zero, Array.length_toList]
  exact Iff.rfl
set_option maxHeartbeats 2000000 in
set_option maxRecDepth 100000 in
theorem rput_any {w : World} {base q : Nat} {bv nv mv : Value} {c : Fl} {u : Int} {xb xn : List BA} {xm : List Wr} (i : Nat) (d : BA) (h : RR w base q bv nv mv c u xb xn xm) (hi : i < xn.length) (hu0 : 0 ≤ u) (hu1 : u ≤ 1000000) :
    Calls Try.prog 34 #[.pointer (some ⟨q, 0, none⟩), .agg #[.int .i64 (i : Int), .string d]] w (Tup0 (fun w' => RR w' base q bv nv mv c (usesOf u (xn.getD i default)) xb (xn.set i d) xm ∧ Mod (RF q bv nv mv) w w')) := by
  have mixed : Try.prog.follows .mixedOrders = true := by kernel_rfl
  obtain ⟨W, hW⟩ : ∃ W, W = w.alloc (.cells #[.int .i64 (i : Int), .string d] 68) := ⟨_, rfl⟩
  have hB : Below w.heap.size w W := by rw [hW]; exact bel1 _ _
  have hX := h.below hB
  have b0 : W.cell? ⟨w.heap.size, 0, none⟩ = some (.int .i64 (i : Int)) := by rw [hW, World.cell?_alloc_at _ _ _ _ rfl]; rfl
  have b1 : W.cell? ⟨w.heap.size, 1, none⟩ = some (.string d) := by rw [hW, World.cell?_alloc_at _ _ _ _ rfl]; rfl
  obtain ⟨⟨-, -, -, g3, g4, -⟩, gf⟩ := hX.cells
  have f4 := gf 4 (by omega)
  obtain ⟨g, cap, rfl, hc, hf⟩ := ownS_cell hX.on hi
  have HI := Lib.hid hi
  have hiI : (i : Int) < (xn.length : Int) := by omega
  have HX := Lib.hid hX
  have HM := Lib.hid ((Mod.belowAll hB).mono (S' := RF q bv (.slice (some ⟨g, 0, none⟩) xn.length cap) mv) (fun _ _ c => c.elim))
  obtain ⟨n, hn⟩ : ∃ n, n = xn.length := ⟨_, rfl⟩
  have HN := Lib.hid hn
  rw [← hn] at g3 hiI
  obtain ⟨x, hx⟩ : ∃ x, x = xn.getD i default := ⟨_, rfl⟩
  have HXX := Lib.hid hx
  rw [← hx] at hc
  generalize huu : usesOf u (xn.getD i default) = u1 at *
  have HU := Lib.hid huu
  have hqb := h.blk
  clear huu
  clear h hB hX gf hn hx hi
  have HQ := Lib.hid (show w.heap.size ≠ q by have := blk_lt hqb; omega)
  clear hqb
  by_cases hz : x.size = 0
  · have hzb : (ByteArray.toList x).isEmpty = true := by rw [emptyB]; simp [hz]
    go_enter Try.func34, Try.ntmps34
    go_upto_region 1 with fail
    rw [← hW]
    clear hW
    go_quiet (fail)
    go_upto_region 3 with fail
    have HX1 := Lib.hid ((HX.out.mod (Mod.drewN (S := fun _ => False) W nq) (fun _ _ c => c)).set 4 (.int .i64 (u + 1)) c (u + 1) rfl)
    have HM1 := Lib.hid (HM.out.trans ((Mod.drewN W nq).trans (Mod.cellOf q 4 (.int .i64 (u + 1)) |>.mono (fun k _ hk => .inl hk))))
    have k3 := HX1.out.cells.1.2.2.2.1
    have k0 : ((W.drewN nq).setCell ⟨q, 4, none⟩ (.int .i64 (u + 1))).cell? ⟨w.heap.size, 0, none⟩ = some (.int .i64 (i : Int)) := (Mod.cellOf q 4 (.int .i64 (u + 1)) : Mod (fun k => k = q) _ _).cell b0 HQ.out
    have k1 : ((W.drewN nq).setCell ⟨q, 4, none⟩ (.int .i64 (u + 1))).cell? ⟨w.heap.size, 1, none⟩ = some (.string d) := (Mod.cellOf q 4 (.int .i64 (u + 1)) : Mod (fun k => k = q) _ _).cell b1 HQ.out
    clear g3 g4 f4 hf hc b0 b1 hzb
    generalize (W.drewN nq).setCell ⟨q, 4, none⟩ (.int .i64 (u + 1)) = W2 at *
    rw [← HN.out] at k3
    obtain ⟨g2, cap2, hv2, hc2, hf2⟩ := ownS_cell HX1.out.on HI.out
    obtain ⟨rfl, rfl⟩ : g = g2 ∧ cap = cap2 := by simpa using hv2
    clear hv2
    go_still_tail 9, (by kernel_rfl)
    change wpList _ _ _ _ _ W2.drew
    have HX2 := Lib.hid (HX1.out.below (Below.refl _ W2).drew)
    have HM2 := Lib.hid (HM1.out.trans ((Mod.belowAll (Below.refl _ W2).drew).mono (fun _ _ c => c.elim)))
    have c3 : W2.drew.cell? ⟨g, i, none⟩ = some (.string (xn.getD i default)) := hc2
    have f3 : W2.drew.frozen? ⟨g, i, none⟩ = false := hf2
    clear hc2 hf2 k3 k0 k1 HX1 HM1 HX HM
    generalize W2.drew = W3 at *
    go_wp2
    go_end0
    obtain ⟨g4, cap4, hv4, hR4, hM4⟩ := HX2.out.setN HI.out d
    obtain ⟨rfl, rfl⟩ : g = g4 ∧ cap = cap4 := by simpa using hv4
    refine ⟨rfl, ?_, HM2.out.trans hM4⟩
    rw [← HU.out, usesOf, ← HXX.out, if_pos hz]
    exact hR4
  · have hzb : (ByteArray.toList x).isEmpty = false := by rw [emptyB]; simp [hz]
    go_enter Try.func34, Try.ntmps34
    go_upto_region 1 with fail
    rw [← hW]
    clear hW
    go_quiet (fail)
    go_upto_region 3 with fail
    have HX1 := Lib.hid (HX.out.mod (Mod.drewN (S := fun _ => False) W nq) (fun _ _ c => c))
    have HM1 := Lib.hid (HM.out.trans (Mod.drewN W nq))
    have k3 : (W.drewN nq).cell? ⟨q, 3, none⟩ = some (.slice (some ⟨g, 0, none⟩) n cap) := g3
    have k0 : (W.drewN nq).cell? ⟨w.heap.size, 0, none⟩ = some (.int .i64 (i : Int)) := b0
    have k1 : (W.drewN nq).cell? ⟨w.heap.size, 1, none⟩ = some (.string d) := b1
    clear g3 g4 f4 hf hc b0 b1 hzb
    generalize W.drewN nq = W2 at *
    obtain ⟨g2, cap2, hv2, hc2, hf2⟩ := ownS_cell HX1.out.on HI.out
    obtain ⟨rfl, rfl⟩ : g = g2 ∧ cap = cap2 := by simpa using hv2
    clear hv2
    go_still_tail 9, (by kernel_rfl)
    change wpList _ _ _ _ _ W2.drew
    have HX2 := Lib.hid (HX1.out.below (Below.refl _ W2).drew)
    have HM2 := Lib.hid (HM1.out.trans ((Mod.belowAll (Below.refl _ W2).drew).mono (fun _ _ c => c.elim)))
    have c3 : W2.drew.cell? ⟨g, i, none⟩ = some (.string (xn.getD i default)) := hc2
    have f3 : W2.drew.frozen? ⟨g, i, none⟩ = false := hf2
    clear hc2 hf2 k3 k0 k1 HX1 HM1 HX HM
    generalize W2.drew = W3 at *
    go_wp2
    go_end0
    obtain ⟨g4, cap4, hv4, hR4, hM4⟩ := HX2.out.setN HI.out d
    obtain ⟨rfl, rfl⟩ : g = g4 ∧ cap = cap4 := by simpa using hv4
    refine ⟨rfl, ?_, HM2.out.trans hM4⟩
    rw [← HU.out, usesOf, ← HXX.out, if_neg hz]
    exact hR4
end Go.Proofs.Ytcgkdomfbkkboaa
