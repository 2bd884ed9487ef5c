/- The reference: a frame is dropped, doubled. -/
import Derived.Test.YtmiaifbpepfbnaaRLeave
namespace Go.Proofs.Ytmiaifbpepfbnaa
open Go.RowKit Go.Joins Go.ChangeMaps

set_option maxRecDepth 100000 in
theorem rdrop_any (base q : Nat) (v c : Value) (s : St) (k : Int) (w : World) (h : RN w base q v c s) (hg : Good s) (hbase : base ≤ w.heap.size) :
    Calls Try.prog 34 #[.pointer (some ⟨q, 0, none⟩), .int .i64 k] w (RB (dropS s k).2 (RUpd base q v c (dropS s k).1 w)) := by
  have his := Lib.hid (is_any base q v c s k w h)
  have hP := Lib.hid h
  have hL := Lib.hid hg.len
  by_cases hk : inB s k = true
  · have hk' := hk
    simp [inB] at hk'
    obtain ⟨i, rfl⟩ := Int.eq_ofNat_of_zero_le hk'.1
    have hI := Lib.hid (show i < 1000 by have := hL.out; omega)
    have hD : Hid (dropS s (i : Int) = (leaveS s i, true)) := by simp [Hid, dropS, hk]
    rw [hD.out]
    rw [hk] at his
    clear hk hk' h hg
    go_enter Try.func34, Try.ntmps34
    go_wp2_with (first
      | (go_at_call 30; refine his.out.mono ?_; rintro e w1 ⟨rfl, rfl⟩)
      | (go_at_call 38; refine (rleave_any base q v c s i _ hP.out hL.out hbase hI.out).mono ?_; rintro e w2 ⟨rfl, hU⟩))
    go_ret
    exact rB rfl hU
  · have hk' : inB s k = false := by simpa using hk
    have hD : Hid (dropS s k = (s, false)) := by simp [Hid, dropS, hk]
    rw [hD.out]
    rw [hk'] at his
    clear hk hk' h hg
    go_enter Try.func34, Try.ntmps34
    go_wp2_with (go_at_call 30; refine his.out.mono ?_; rintro e w1 ⟨rfl, rfl⟩)
    go_ret
    exact rB rfl (RUpd.same hP.out (Below.refl _ _))
theorem RUpd.app {base q : Nat} {v v2 c : Value} {s : St} {w X w' : World} (hb : Below w.heap.size w X) (hm : Mod (fun k => v.ownBlock = some k) X w') (hv2 : ∀ g, v2.ownBlock = some g → v.ownBlock = some g ∨ X.heap.size ≤ g) (hP : RN (w'.setCell ⟨q, 1, none⟩ v2) base q v2 c s) :
    RUpd base q v c s w (w'.setCell ⟨q, 1, none⟩ v2) :=
  RUpd.step (Mod.refl _ w) (fun _ hg => .inl hg) (fun _ hg => .inl hg) hb hm hv2 (mod_setCell q 1 _ _) hP
set_option maxHeartbeats 2000000 in
set_option maxRecDepth 100000 in
theorem rtwice_any (base q : Nat) (v c : Value) (s : St) (k : Int) (w : World) (h : RN w base q v c s) (hbase : base ≤ w.heap.size) :
    Calls Try.prog 12 #[.pointer (some ⟨q, 0, none⟩), .int .i64 k] w (RB (twiceS s k).2 (RUpd base q v c (twiceS s k).1 w)) := by
  have his := Lib.hid (is_any base q v c s k w h)
  obtain ⟨a, cap, rfl, hS, -⟩ := h.own.sli EF
  have hP := Lib.hid h
  have hcm := hS.capm
  have hln := hS.len
  unfold maxLen at hcm
  by_cases hk : inB s k = true
  · have hk' := hk
    simp [inB] at hk'
    obtain ⟨i, rfl⟩ := Int.eq_ofNat_of_zero_le hk'.1
    have hi : i < s.fl.length := by omega
    rw [hk] at his
    by_cases h8 : s.fl.length < 800
    · have hD : Hid (twiceS s (i : Int) = ({ s with fl := s.fl ++ [s.fl.getD i default] }, true)) := by simp [Hid, twiceS, hk, h8]
      rw [hD.out]
      have h8i : (s.fl.length : Int) < 800 := by omega
      have H8 := Lib.hid h8
      obtain ⟨b, off, hab, hc⟩ := hS.lst i hi
      subst hab
      obtain ⟨g0, g1, g2⟩ := fr_cells hc
      have g0' := fun o => keepc' g0 (bel1 w o)
      have g1' := fun o => keepc' g1 (bel1 w o)
      have g2' := fun o => keepc' g2 (bel1 w o)
      generalize s.fl.getD i default = f at *
      obtain ⟨f0, f1, f2⟩ := f
      have c1 := h.c.1.2.1
      have c1' := fun o => keepc' c1 (bel1 w o)
      have hin : (i : Int) < (s.fl.length : Int) := by omega
      have h0i : (0 : Int) ≤ (i : Int) := by omega
      have hnk : ¬ s.fl.length ≤ i := by omega
      have mixed : Try.prog.follows .mixedOrders = true := by kernel_rfl
      have hB3 := Lib.hid ((Below.refl _ w).drew.alloc (Nat.le_refl _) (.cells #[.int .i64 f0, .int .i64 f1, .string f2] 31))
      have hP3 := Lib.hid (hP.out.below hB3.out)
      clear hk hk' h h8 hD hc hS
      go_enter Try.func12, Try.ntmps12
      go_wp2_with (go_at_call 30; refine his.out.mono ?_; rintro e w1 ⟨rfl, rfl⟩)
      go_region_law_o (refine step_app EF TF rfl (.tmp 21) (.tmp 29) rfl (by simp [Act.eval]) hP3.out.own (some ⟨_, 0, none⟩) 1 1 [(f0, f1, f2)] rfl (by simp [Act.eval]) (fr_own (f := (f0, f1, f2)) rfl) (by simp) (by have := H8.out; simp; omega) (by have := H8.out; unfold maxLen; simp; omega) (by simp; omega) ?_; intro v' w' ho hgr hat; obtain ⟨a', c', rfl, -, -⟩ := ho.sli EF; have hm := Lib.hid (Mod.grown (S := fun k => (Value.slice (some ⟨b, off, none⟩) s.fl.length cap).ownBlock = some k) hgr (fun _ hk => hk)); have d1 := (cell_of (hm.out.heap hP3.out.blk hP3.out.not_own.1) 1 rfl).1; have d2 := (cell_of (hm.out.heap hP3.out.blk hP3.out.not_own.1) 1 rfl).2)
      all_goals (
        go_wp2
        go_ret
        exact rB rfl (RUpd.app hB3.out hm.out (by simpa using hat) (hP3.out.put1 hm.out hP3.out.not_own.1 (fun g hg => hP3.out.own_c g hg) (by simpa using ho) ⟨rfl, rfl, rfl, rfl⟩)))
    · have hD : Hid (twiceS s (i : Int) = (s, false)) := by simp [Hid, twiceS, h8]
      rw [hD.out]
      have h8i : (800 : Int) ≤ (s.fl.length : Int) := by omega
      have c1 := h.c.1.2.1
      clear hk hk' hi h h8 hD hS
      go_enter Try.func12, Try.ntmps12
      go_wp2_with (go_at_call 30; refine his.out.mono ?_; rintro e w1 ⟨rfl, rfl⟩)
      go_ret
      exact rB rfl (RUpd.same hP.out (Below.refl _ _))
  · have hk' : inB s k = false := by simpa using hk
    have hD : Hid (twiceS s k = (s, false)) := by simp [Hid, twiceS, hk]
    rw [hD.out]
    rw [hk'] at his
    clear hk hk' h hS
    go_enter Try.func12, Try.ntmps12
    go_wp2_with (go_at_call 30; refine his.out.mono ?_; rintro e w1 ⟨rfl, rfl⟩)
    go_ret
    exact rB rfl (RUpd.same hP.out (Below.refl _ _))
end Go.Proofs.Ytmiaifbpepfbnaa
