/- Links are cut and joined; all are healed. -/
import Derived.Test.YtmiaifbpepfbnaaTak
namespace Go.Proofs.Ytmiaifbpepfbnaa
open Go.RowKit Go.Joins Go.ChangeMaps

/-- a contract met in a later world, the world unchanged. -/
theorem laterS {P : Program} {f : FuncId} {args : Array Value} {w0 : World} {b : Bool} {x : Later w0} (h : Calls P f args x.w (SameB b x.w)) :
    Calls P f args x.w fun e w'' => e = .returned (.bool b) ∧ ∃ y : Later w0, w'' = y.w := h.mono fun _ _ ⟨he, e⟩ => ⟨he, x, e.symm⟩
theorem PN.cutMap {w w' : World} {base p bm : Nat} {v : Value} {s s' : St} (h : PN w base p bm v s) (hm : w.grownBy w' (some bm)) (hM : MapAt w' bm s') (e : s'.nodes = s.nodes ∧ s'.fl = s.fl ∧ s'.fr = s.fr ∧ s'.bt = s.bt) : PN w' base p bm v s' := by
  obtain ⟨e1, e2, e3, e4⟩ := e
  have hmod := Mod.grown (S := fun k => k = bm) hm (fun k hk => by cases hk; rfl)
  have hno := h.not_own
  refine ⟨by rw [e1, e3, e4]; exact hmod.heap h.blk hno.2.2, h.bp, by rw [e2]; exact h.own.mod hmod (fun g hg hb => hno.2.1 (by rw [hg, hb])), h.bb, hM⟩
theorem PUpd.cutMap {base p bm : Nat} {v : Value} {s s' : St} {w Y w' : World} (h : PN w base p bm v s) (hb : Below w.heap.size w Y) (hm : Y.grownBy w' (some bm)) (hM : MapAt w' bm s') (e : s'.nodes = s.nodes ∧ s'.fl = s.fl ∧ s'.fr = s.fr ∧ s'.bt = s.bt) : PUpd base p bm v s' w w' :=
  ⟨v, (h.below hb).cutMap hm hM e, ((Mod.belowAll hb).mono (fun _ _ c => c.elim)).trans (Mod.grown hm (fun k hk => by cases hk; exact .inr (.inl rfl))), fun _ hg => .inl hg⟩
set_option maxHeartbeats 2000000 in
set_option maxRecDepth 100000 in
theorem cut_any (base p bm : Nat) (v : Value) (s : St) (a b : Int) (w : World) (h : PN w base p bm v s) (hg : Good s) (hcnt : s.cnt < 1000000) :
    Calls Try.prog 16 #[.pointer (some ⟨p, 0, none⟩), .int .i64 a, .int .i64 b] w (RB (cutS s a b).2 (PUpd base p bm v (cutS s a b).1 w)) := by
  have hP := Lib.hid h
  have htwo := Lib.hid (fun y : Later w => two_any p a b s.nodes y.w (hP.out.below y.h).c.1.1)
  have l0 := fun y : Later w => y.cell hP.out.c.1.2.2.1
  by_cases ht : twoB s.nodes a b = true
  · have hrange := lk_range ht
    have hn6 := hg.n6.2
    have l3 : ∀ y : Later w, (Instr.lookup 51 (.map (some bm)) (.agg #[.int .i64 (lk a b).1, .int .i64 (lk a b).2]) false).run Try.prog y.w = .ok (.bool (cutB s a b)) y.w := fun y => map_look (hP.out.below y.h).map (lk a b) ⟨hrange.1, hrange.2.1, by omega⟩
    rw [ht] at htwo
    by_cases hc : cutB s a b = true
    · have hD : Hid (cutS s a b = (s, false)) := by simp [Hid, cutS, hc]
      rw [hD.out]
      rw [hc] at l3
      clear hrange hn6 hc ht hcnt hg h hD
      go_enter Try.func16, Try.ntmps16
      go_wp2_with fail
      refine wp_region_later_lit (by kernel_rfl) (by kernel_rfl) ?_
      repeat (any_goals (first | go_big_quiet_step (first | (go_at_call 26; exact laterS (htwo.out _)) | (go_at_call 31; exact Calls.later (link_any _ _ _))) | quiet_step (first | (go_at_call 26; exact laterS (htwo.out _)) | (go_at_call 31; exact Calls.later (link_any _ _ _)))))
      refine wpQuiet_nil ?_
      intro _ hw'
      obtain ⟨y, hw''⟩ := hw'
      subst hw''
      have hy := Lib.hid y.h
      clear l0 l3 htwo
      generalize y.w = Y at *
      go_wp2
      go_ret
      exact rB rfl (PUpd.same hP.out hy.out)
    · have hc' : cutB s a b = false := by simpa using hc
      have hD : Hid (cutS s a b = ({ s with cuts := s.cuts ++ [lk a b], cnt := s.cnt + 1 }, true)) := by simp [Hid, cutS, hc', ht]
      rw [hD.out]
      rw [hc'] at l3
      have HR := Lib.hid (show 0 ≤ (lk a b).1 ∧ (lk a b).1 < (lk a b).2 ∧ (lk a b).2 < 6 from ⟨hrange.1, hrange.2.1, by omega⟩)
      have HN := Lib.hid hcnt
      have mixed : Try.prog.follows .mixedOrders = true := by kernel_rfl
      clear hrange hn6 hc hc' ht hcnt hg h hD
      go_enter Try.func16, Try.ntmps16
      go_wp2_with fail
      refine wp_region_later_lit (by kernel_rfl) (by kernel_rfl) ?_
      repeat (any_goals (first | go_big_quiet_step (first | (go_at_call 26; exact laterS (htwo.out _)) | (go_at_call 31; exact Calls.later (link_any _ _ _))) | quiet_step (first | (go_at_call 26; exact laterS (htwo.out _)) | (go_at_call 31; exact Calls.later (link_any _ _ _)))))
      refine wpQuiet_nil ?_
      intro _ hw'
      obtain ⟨y, hw''⟩ := hw'
      subst hw''
      have hy := Lib.hid y.h
      have c2 := l0 y
      clear l0 l3 htwo
      generalize y.w = Y at *
      go_wp2_with fail
      go_region_with (go_at_call 31; refine (link_any a b _).mono ?_; rintro e W ⟨rfl, hb⟩; have hB := Lib.hid (grew_trans ((Below.refl _ Y).drew) hb); clear hb; have c2' := keepc' c2 hB.out; obtain ⟨W3, hrun, hM3, hg3⟩ := map_put ((hP.out.below (grew_trans hy.out hB.out)).map) (lk a b) HR.out (by have := HN.out; unfold maxLen; omega) { s with cuts := s.cuts ++ [lk a b], cnt := s.cnt + 1 } rfl rfl)
      all_goals (
        go_wp2
        go_ret
        exact rB rfl (PUpd.cutMap hP.out (grew_trans hy.out hB.out) hg3 hM3 ⟨rfl, rfl, rfl, rfl⟩))
  · have ht' : twoB s.nodes a b = false := by simpa using ht
    have hD : Hid (cutS s a b = (s, false)) := by simp [Hid, cutS, ht']
    rw [hD.out]
    rw [ht'] at htwo
    clear ht ht' hcnt hg h hD l0
    go_enter Try.func16, Try.ntmps16
    go_wp2_with fail
    refine wp_region_later_lit (by kernel_rfl) (by kernel_rfl) ?_
    repeat (any_goals (first | go_big_quiet_step (first | (go_at_call 26; exact laterS (htwo.out _)) | (go_at_call 31; exact Calls.later (link_any _ _ _))) | quiet_step (first | (go_at_call 26; exact laterS (htwo.out _)) | (go_at_call 31; exact Calls.later (link_any _ _ _)))))
    refine wpQuiet_nil ?_
    intro _ hw'
    obtain ⟨y, hw''⟩ := hw'
    subst hw''
    have hy := Lib.hid y.h
    clear htwo
    generalize y.w = Y at *
    go_wp2
    go_ret
    exact rB rfl (PUpd.same hP.out hy.out)
end Go.Proofs.Ytmiaifbpepfbnaa
