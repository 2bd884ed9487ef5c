/- The reference is flushed. -/
import Derived.Test.YtcgkdomfbkkboaaRRead
namespace Go.Proofs.Ytcgkdomfbkkboaa
open Go.RowKit Go.Joins Go.ChangeMaps

theorem getD_memD {α : Type} [Inhabited α] {l : List α} {i : Nat} (h : i < l.length) : l.getD i default ∈ l := by rw [List.getD_eq_getElem?_getD, List.getElem?_eq_getElem h]; exact List.getElem_mem h
theorem good_more {s : St} (hg : Good s) {i : Nat} (hi : i < s.more.length) : ∃ n : Nat, (s.more.getD i default).1 = (n : Int) ∧ (n : Int) < s.len ∧ (s.more.getD i default).2.size = 32 := by
  obtain ⟨h0, h1, h2⟩ := hg.more _ (getD_memD hi)
  exact ⟨(s.more.getD i default).1.toNat, by omega, by omega, h2⟩
/-- an element of the row of writes. -/
theorem ownW_cell {w : World} {base : Nat} {v : Value} {xs : List Wr} (h : OwnW w base v xs) {i : Nat} (hi : i < xs.length) : ∃ b off cap, v = .slice (some ⟨b, off, none⟩) xs.length cap ∧ w.cell? ⟨b, off + i * 2, none⟩ = some (.int .i64 (xs.getD i default).1) ∧ w.cell? ⟨b, off + i * 2 + 1, none⟩ = some (.string (xs.getD i default).2) := by
  obtain ⟨a, cap, hv, hs, -⟩ := h.sli EW
  obtain ⟨b, off, e, hc⟩ := hs.lst i hi
  subst e
  exact ⟨b, off, cap, hv, by have := hc 0 _ rfl; simpa using this, hc 1 _ rfl⟩
theorem apply_take (f : Fn) (ws : List Wr) {i : Nat} (hi : i < ws.length) : apply f (ws.take (i + 1)) = upd (apply f (ws.take i)) (ws.getD i default).1 (some (ws.getD i default).2) := by
  rw [take_snoc ws i default hi, apply_snoc]
set_option maxHeartbeats 4000000 in
set_option maxRecDepth 100000 in
theorem rflush_any {w : World} {base q : Nat} {bv nv mv : Value} {s : St} (h : RD w base q bv nv mv s) (hg : Good s) (hn : s.more.length ≤ 1000000) : Calls Try.prog 42 #[.pointer (some ⟨q, 0, none⟩)] w (TupI (flushR s).1 (RUpd base q bv nv mv (flushR s).2 w)) := by
  have mixed : Try.prog.follows .mixedOrders = true := by kernel_rfl
  have hP := Lib.hid h
  obtain ⟨⟨-, -, -, -, -, -, -, g7⟩, -⟩ := h.cells
  simp only [St.fl] at g7
  unfold flushR
  by_cases ho : s.off = true
  · rw [if_pos ho]
    rw [ho] at g7
    simp only [Bool.not_true] at g7
    clear h hg
    go_enter Try.func42, Try.ntmps42
    go_wp2
    go_ret
    exact ⟨rfl, RUpd.same hP.out (Below.refl _ _)⟩
  · rw [if_neg ho]
    have ho2 : s.off = false := by simpa using ho
    rw [ho2] at g7
    simp only [Bool.not_false] at g7
    have HOP := Lib.hid (rop_any h hg ho2)
    by_cases hbo : (burnS s).off = true
    · rw [if_pos hbo]
      rw [hbo] at HOP
      clear h hg
      go_enter Try.func42, Try.ntmps42
      go_wp2_with (go_at_call 33; refine HOP.out.mono ?_; rintro e w1 ⟨rfl, hP1, hM1⟩; have N1 := Lib.hid hP1; have N2 := Lib.hid hM1; clear hP1 hM1)
      go_ret
      exact ⟨rfl, RUpd.fixed N1.out N2.out⟩
    · rw [if_neg hbo]
      have hbo2 : (burnS s).off = false := by simpa using hbo
      rw [hbo2] at HOP
      obtain ⟨bn1, bn2, bn3, bn4, bn5⟩ := burn_now s
      have HBG := Lib.hid (good_burn hg)
      have HNW := Lib.hid bn1
      have HLM := Lib.hid (show (burnS s).more.length ≤ 1000000 by rw [bn3]; exact hn)
      rw [← bn1]
      clear bn1 bn2 bn3 bn4 bn5 hbo hbo2 h hg hP hn ho
      generalize burnS s = s1 at *
      generalize hm : s1.more.length = m at *
      have HM := Lib.hid hm
      clear hm
      go_enter Try.func42, Try.ntmps42
      go_upto_region 4 with (go_at_call 33; refine HOP.out.mono ?_; rintro e w1 ⟨rfl, hP1, hM1⟩; have N1 := Lib.hid hP1; have N2 := Lib.hid hM1; clear hP1 hM1)
      clear g7
      go_loopg [3] m (fun gk v3 wr => ∃ i : Nat, i + gk = m ∧ v3 = .int .i64 (i : Int) ∧ RR wr base q bv nv mv s1.fl (cntF s1.now) (rowOf (apply s1.base (s1.more.take i)) s1.len) (rowOf s1.now s1.len) s1.more ∧ Mod (RF q bv nv mv) w wr)
      case atStart => exact ⟨0, by omega, rfl, N1.out, N2.out⟩
      case round =>
        obtain ⟨i, hik, rfl, hR, hMo⟩ := hrel
        have HR := Lib.hid hR
        have HMo := Lib.hid hMo
        clear hMo N1 N2
        obtain ⟨⟨-, -, k2, -, -, k5, -⟩, kf⟩ := hR.cells
        have f5 := kf 5 (by omega)
        by_cases hlt : i < m
        · have hli : (i : Int) < (m : Int) := by omega
          have hi6 : (i : Int) ≤ 1000000 := by have := HLM.out; omega
          obtain ⟨b, off, cap, rfl, c0, c1⟩ := ownW_cell hR.om (i := i) (by have := HM.out; omega)
          obtain ⟨n, e1, e2, e3⟩ := good_more HBG.out (i := i) (by have := HM.out; omega)
          have hap := apply_take s1.base s1.more (i := i) (by have := HM.out; omega)
          rw [e1] at c0 hap
          generalize (s1.more.getD i default).2 = d at *
          have hin : n < (rowOf (apply s1.base (s1.more.take i)) s1.len).length := by rw [rowOf_length]; omega
          obtain ⟨g, cb, hbv, hc, hf⟩ := ownS_cell hR.ob hin
          subst hbv
          have hRd := hR.below (Below.refl _ wr).drew
          obtain ⟨gg, cc, hv4, hR4, hM4⟩ := hRd.setB hin d
          obtain ⟨rfl, rfl⟩ : g = gg ∧ cb = cc := by simpa using hv4
          obtain ⟨gg, cc, hv5, hcd, hfd⟩ := ownS_cell hRd.ob hin
          obtain ⟨rfl, rfl⟩ : g = gg ∧ cb = cc := by simpa using hv5
          rw [rowOf_set _ e2, ← hap] at hR4
          have HR4 := Lib.hid hR4
          have HM4 := Lib.hid ((HMo.out.trans ((Mod.belowAll (Below.refl _ wr).drew).mono (fun _ _ c => c.elim))).trans hM4)
          rw [HM.out] at k5
          have hnl : (n : Int) < ((rowOf (apply s1.base (s1.more.take i)) s1.len).length : Int) := by omega
          clear hv4 hv5 hRd hR4 hM4 hap e1 e2 e3 hin hR kf f5 HR HMo
          generalize (rowOf (apply s1.base (s1.more.take i)) s1.len).getD n default = old at *
          generalize (rowOf (apply s1.base (s1.more.take i)) s1.len).length = lb at *
          go_upto_region 6 with fail
          go_still_tail 21, (by kernel_rfl)
          change wpList _ _ _ _ _ wr.drew
          clear c0 c1 k2 k5 hc hf
          generalize wr.drew = W2 at *
          go_wp2
          go_roundg (gk - 1)
          case measure => omega
          case rel => exact ⟨i + 1, by omega, by simp, HR4.out, HM4.out⟩
        · obtain rfl : i = m := by omega
          have hge : (i : Int) ≤ (i : Int) := Int.le_refl _
          obtain ⟨ma, mc, hmv, -, -⟩ := hR.om.sli EW
          subst hmv
          rw [HM.out] at k5
          have hR5 := hR.more (Mod.refl (fun _ => False) wr) (fun c => c) (fun _ _ c => c) (fun _ _ c => c) (ownL_nil (enc := encW) (sz := 2) (e := 68) wr base)
          rw [show s1.more.take i = s1.more from List.take_of_length_le (by have := HM.out; omega)] at hR5
          have HR5 := Lib.hid hR5
          clear hR5 hR hlt kf
          go_wp2
          go_ret
          refine ⟨rfl, (show RUpd base q bv nv _ { s1 with base := s1.now, more := [] } w _ from ?_)⟩
          exact ⟨_, HR5.out, HMo.out.trans ((Mod.cellOf q 5 _).mono (fun k _ hk => .inl hk)), fun g hg => by simp [Value.ownBlock] at hg⟩
end Go.Proofs.Ytcgkdomfbkkboaa
