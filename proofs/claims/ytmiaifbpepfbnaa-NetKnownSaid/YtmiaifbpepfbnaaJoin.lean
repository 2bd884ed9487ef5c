/- Links are joined; all are healed; what was sent; a net that is new. -/
import Derived.Test.YtmiaifbpepfbnaaCut
namespace Go.Proofs.Ytmiaifbpepfbnaa
open Go.RowKit Go.Joins Go.ChangeMaps

set_option maxHeartbeats 2000000 in
set_option maxRecDepth 100000 in
theorem join_any (base p bm : Nat) (v : Value) (s : St) (a b : Int) (w : World) (h : PN w base p bm v s) (hg : Good s) :
    Calls Try.prog 19 #[.pointer (some ⟨p, 0, none⟩), .int .i64 a, .int .i64 b] w (RB (joinS s a b).2 (PUpd base p bm v (joinS s a b).1 w)) := by
  have hP := Lib.hid h
  have htwo := Lib.hid (fun y : Later w => two_any p a b s.nodes y.w (hP.out.below y.h).c.1.1)
  have l0 := fun y : Later w => y.cell hP.out.c.1.2.2.1
  by_cases ht : twoB s.nodes a b = true
  · have hrange := lk_range ht
    have hn6 := hg.n6.2
    have l3 : ∀ y : Later w, (Instr.lookup 51 (.map (some bm)) (.agg #[.int .i64 (lk a b).1, .int .i64 (lk a b).2]) false).run Try.prog y.w = .ok (.bool (cutB s a b)) y.w := fun y => map_look (hP.out.below y.h).map (lk a b) ⟨hrange.1, hrange.2.1, by omega⟩
    rw [ht] at htwo
    by_cases hc : cutB s a b = true
    · have hD : Hid (joinS s a b = ({ s with cuts := s.cuts.erase (lk a b) }, true)) := by simp [Hid, joinS, hc]
      rw [hD.out]
      rw [hc] at l3
      have HR := Lib.hid (show 0 ≤ (lk a b).1 ∧ (lk a b).1 < (lk a b).2 ∧ (lk a b).2 < 6 from ⟨hrange.1, hrange.2.1, by omega⟩)
      have HN := Lib.hid hg.nodup
      have mixed : Try.prog.follows .mixedOrders = true := by kernel_rfl
      clear hrange hn6 hc ht hg h hD
      go_enter Try.func19, Try.ntmps19
      go_wp2_with fail
      refine wp_region_later_lit (by kernel_rfl) (by kernel_rfl) ?_
      repeat (any_goals (first | go_big_quiet_step (first | (go_at_call 26; exact laterS (htwo.out _)) | (go_at_call 31; exact Calls.later (link_any _ _ _))) | quiet_step (first | (go_at_call 26; exact laterS (htwo.out _)) | (go_at_call 31; exact Calls.later (link_any _ _ _)))))
      refine wpQuiet_nil ?_
      intro _ hw'
      obtain ⟨y, hw''⟩ := hw'
      subst hw''
      have hy := Lib.hid y.h
      have c2 := l0 y
      clear l0 l3 htwo
      generalize y.w = Y at *
      go_wp2_with fail
      go_region_with (go_at_call 31; refine (link_any a b _).mono ?_; rintro e W ⟨rfl, hb⟩; have hB := Lib.hid (grew_trans ((Below.refl _ Y).drew) hb); clear hb; have c2' := keepc' c2 hB.out; obtain ⟨W3, hrun, hM3, hg3⟩ := map_del ((hP.out.below (grew_trans hy.out hB.out)).map) (lk a b) HR.out 0 HN.out { s with cuts := s.cuts.erase (lk a b) } rfl rfl)
      all_goals (
        go_wp2
        go_ret
        exact rB rfl (PUpd.cutMap hP.out (grew_trans hy.out hB.out) hg3 hM3 ⟨rfl, rfl, rfl, rfl⟩))
    · have hc' : cutB s a b = false := by simpa using hc
      have hD : Hid (joinS s a b = (s, false)) := by simp [Hid, joinS, hc']
      rw [hD.out]
      rw [hc'] at l3
      clear hrange hn6 hc hc' ht hg h hD
      go_enter Try.func19, Try.ntmps19
      go_wp2_with fail
      refine wp_region_later_lit (by kernel_rfl) (by kernel_rfl) ?_
      repeat (any_goals (first | go_big_quiet_step (first | (go_at_call 26; exact laterS (htwo.out _)) | (go_at_call 31; exact Calls.later (link_any _ _ _))) | quiet_step (first | (go_at_call 26; exact laterS (htwo.out _)) | (go_at_call 31; exact Calls.later (link_any _ _ _)))))
      refine wpQuiet_nil ?_
      intro _ hw'
      obtain ⟨y, hw''⟩ := hw'
      subst hw''
      have hy := Lib.hid y.h
      clear l0 l3 htwo
      generalize y.w = Y at *
      go_wp2
      go_ret
      exact rB rfl (PUpd.same hP.out hy.out)
  · have ht' : twoB s.nodes a b = false := by simpa using ht
    have hc : cutB s a b = false := by
      unfold cutB
      rw [decide_eq_false_iff_not]
      exact fun c => ht (twoB_of_lk (hg.cuts _ c))
    have hD : Hid (joinS s a b = (s, false)) := by simp [Hid, joinS, hc]
    rw [hD.out]
    rw [ht'] at htwo
    clear ht ht' hg h hD l0 hc
    go_enter Try.func19, Try.ntmps19
    go_wp2_with fail
    refine wp_region_later_lit (by kernel_rfl) (by kernel_rfl) ?_
    repeat (any_goals (first | go_big_quiet_step (first | (go_at_call 26; exact laterS (htwo.out _)) | (go_at_call 31; exact Calls.later (link_any _ _ _))) | quiet_step (first | (go_at_call 26; exact laterS (htwo.out _)) | (go_at_call 31; exact Calls.later (link_any _ _ _)))))
    refine wpQuiet_nil ?_
    intro _ hw'
    obtain ⟨y, hw''⟩ := hw'
    subst hw''
    have hy := Lib.hid y.h
    clear htwo
    generalize y.w = Y at *
    go_wp2
    go_ret
    exact rB rfl (PUpd.same hP.out hy.out)
theorem map_clear {w : World} {bm : Nat} {s : St} (h : MapAt w bm s) (ty : TypeId) : ∃ w', (Builtin.clear_ #[51] ty #[.map (some bm)]).run Try.prog w = .ok (.tuple #[]) w' ∧ MapAt w' bm (healS s) ∧ w.grownBy w' (some bm) := by
  obtain ⟨D, ⟨es, clock, hb, F, hs, hD⟩, hm⟩ := h
  refine ⟨_, by simp [Builtin.clear_, run_underlying Try.underlying51, MapKept.run_getObj_map hb, MapKept.run_setObj_map _ hb, Result.andThen]; rfl, ⟨.map [], ⟨#[], clock, heap_setBlock_same hb _, ⟨by simp, MapKept.stamped_empty _, by simp⟩, Nat.zero_le _, rfl⟩, fun c l _ _ => ?_⟩, ⟨rfl, rfl, rfl, by simp [setBlock], fun i _ hi => heap_setBlock_other hb _ (fun e => hi (by rw [e]))⟩⟩
  simp [healS, DataW.atKey]
theorem heal_any (base p bm : Nat) (v : Value) (s : St) (w : World) (h : PN w base p bm v s) : Calls Try.prog 25 #[.pointer (some ⟨p, 0, none⟩)] w (Tup0 (PUpd base p bm v (healS s) w)) := by
  have c2 := h.c.1.2.2.1
  obtain ⟨W3, hrun, hM3, hg3⟩ := map_clear h.map 0
  have hP := Lib.hid h
  have hM := Lib.hid hM3
  have hG := Lib.hid hg3
  clear h hM3 hg3
  go_enter Try.func25, Try.ntmps25
  go_wp2
  go_end0
  exact ⟨rfl, PUpd.cutMap hP.out (Below.refl _ _) hG.out hM.out ⟨rfl, rfl, rfl, rfl⟩⟩
end Go.Proofs.Ytmiaifbpepfbnaa
