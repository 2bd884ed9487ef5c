/- A disk is written, and flushed. -/
import Derived.Test.YtcgkdomfbkkboaaRead
namespace Go.Proofs.Ytcgkdomfbkkboaa
open Go.RowKit Go.Joins Go.ChangeMaps

theorem TB : Tab Try.prog 59 70 3 32 := ⟨Try.underlying59, _, _, rfl, rfl, rfl, rfl, rfl⟩
set_option maxHeartbeats 1000000 in
set_option maxRecDepth 100000 in
theorem flush_any {w : World} {base p bm : Nat} {v : Value} {s : St} (h : PD w base p bm v s) (hg : Good s) : Calls Try.prog 17 #[.pointer (some ⟨p, 0, none⟩)] w (TupI (flushR s).1 (PUpd base p bm v (flushR s).2 w)) := by
  have hP := Lib.hid h
  have h1 := (burn_now s).1
  unfold flushR
  by_cases ho : s.off = true
  · rw [if_pos ho]
    have hs := state_off h ho
    clear h hg
    go_enter Try.func17, Try.ntmps17
    go_wp2_with (go_at_call 30; refine hs.mono ?_; rintro e w1 ⟨rfl, rfl⟩)
    go_ret
    exact ⟨rfl, PUpd.same hP.out (Below.refl _ _)⟩
  · rw [if_neg ho]
    have ho2 : s.off = false := by simpa using ho
    have hs := state_on h ho2
    clear ho
    by_cases hbo : (burnS s).off = true
    · rw [if_pos hbo]
      have hb := burn_off h hg hbo
      clear h1 h hg
      go_enter Try.func17, Try.ntmps17
      go_wp2_with (first
        | (go_at_call 30; refine hs.mono ?_; rintro e w1 ⟨rfl, rfl⟩)
        | (go_at_call 32; refine hb.mono ?_; rintro e w1 ⟨rfl, hP1, hM1⟩; have N1 := Lib.hid hP1; have N2 := Lib.hid hM1; clear hP1 hM1))
      go_ret
      exact ⟨rfl, v, N1.out, N2.out, fun _ h => .inl h⟩
    · rw [if_neg hbo]
      have hb := burn_on h hg (by simpa using hbo)
      clear hbo
      have hnow := Lib.hid h1
      clear h1 h hg
      go_enter Try.func17, Try.ntmps17
      go_wp2_with (first
        | (go_at_call 30; refine hs.mono ?_; rintro e w1 ⟨rfl, rfl⟩)
        | (go_at_call 32; refine hb.mono ?_; rintro e w1 ⟨rfl, hP1, hM1⟩; have N1 := Lib.hid hP1; have N2 := Lib.hid hM1; obtain ⟨⟨-, k1, -, -, -, -⟩, kf⟩ := hP1.cells; have k1f := kf 1 (by omega); clear hP1 hM1 kf))
      go_ret
      refine ⟨rfl, .slice none 0 0, ?_, N2.out.trans ((Mod.cellOf p 1 _).mono (fun k _ hk => .inl hk)), fun g hg => by simp [Value.ownBlock] at hg⟩
      have hR := PR.row N1.out (Mod.refl (fun _ => False) _) (fun c => c) (fun c => c) (ownL_nil _ _)
      rw [hnow.out] at hR
      exact hR
/-- behind the row's growth and the map's. -/
theorem PD.wrote {w w2 w3 X : World} {base p bm : Nat} {v v' : Value} {s : St} {i : Int} {b : BA} (h : PD w base p bm v s) (hg : Good s) (hi : 0 ≤ i ∧ i < s.len)
    (hX : Below w.heap.size w X) (hgr : X.grownBy w2 v.ownBlock) (ho : OwnB w2 base v' (s.undo ++ [(i, (s.now i).getD ByteArray.empty, (s.now i).isSome)]))
    (ht : (w2.setCell ⟨p, 1, none⟩ v').mapTurned w3 bm) (hM : MapAt ES w3 bm (if (s.now i).isSome then cntF s.now else cntF s.now + 1) (updG s.now i (some b))) :
    PD w3 base p bm v' (putS s i b) ∧ Mod (PF p bm v) w w3 := by
  obtain ⟨h1, h2, h3⟩ := h.not_own
  have hm : Mod (fun k => v.ownBlock = some k) w w2 := ((Mod.belowAll hX).mono (fun _ _ c => c.elim)).trans (Mod.grown hgr (fun k hk => hk))
  have hr := (h.row hm h1 h2 ho).turned ht hM
  refine ⟨?_, (hm.mono (fun k _ hk => .inr (.inr hk))).trans (((Mod.cellOf p 1 v').mono (fun k _ hk => .inl hk)).trans ((mod_turned ht).mono (fun k _ hk => .inr (.inl hk))))⟩
  have e1 : (putS s i b).undo = s.undo ++ [(i, (s.now i).getD ByteArray.empty, (s.now i).isSome)] := undoOf_snoc s.base s.more (i, b)
  have e2 : (putS s i b).now = upd s.now i (some b) := apply_snoc s.base s.more (i, b)
  have hlen := hg.len
  have e3 : cntF (putS s i b).now = if (s.now i).isSome then cntF s.now else cntF s.now + 1 := by rw [e2, cntF_put hi.1 (by omega)]
  show PR _ _ _ _ _ (putS s i b).fl (putS s i b).undo (cntF (putS s i b).now) (putS s i b).now
  rw [e3, e1, e2]
  exact hr
set_option maxHeartbeats 4000000 in
set_option maxRecDepth 100000 in
theorem write_any {w : World} {base p bm : Nat} {v : Value} {s : St} (i : Int) (b : BA) (h : PD w base p bm v s) (hg : Good s) (hn : s.more.length ≤ 1000000) (hbw : base ≤ w.heap.size) :
    Calls Try.prog 11 #[.pointer (some ⟨p, 0, none⟩), .int .i64 i, .string b] w (TupI (writeR s i b).1 (PUpd base p bm v (writeR s i b).2 w)) := by
  have hP := Lib.hid h
  have ht := there_any i h
  unfold writeR
  by_cases ho : s.off = true
  · rw [if_pos ho]
    have hs := state_off h ho
    clear h hg ht
    go_enter Try.func11, Try.ntmps11
    go_wp2_with (go_at_call 30; refine hs.mono ?_; rintro e w1 ⟨rfl, rfl⟩)
    go_ret
    exact ⟨rfl, PUpd.same hP.out (Below.refl _ _)⟩
  · rw [if_neg ho]
    have ho2 : s.off = false := by simpa using ho
    have hs := state_on h ho2
    clear ho
    by_cases hi : 0 ≤ i ∧ i < s.len
    · rw [show inB s.fl.len i = true from decide_eq_true hi] at ht
      by_cases hb : b.size = 32
      · rw [if_neg (by simp [hi, hb])]
        have hb32 : (b.size : Int) = 32 := by omega
        have hlen := hg.len
        have hwf := wf64 (i := i) (by omega) (by omega)
        have hl : (Instr.lookup 58 (.map (some bm)) (.int .i64 i) true).run Try.prog w = .ok (.tuple #[.string ((s.now i).getD ByteArray.empty), .bool (s.now i).isSome]) w := h.map.look_ok hwf
        have hml := fun (y : Later w) ty => (h.below y.h).map.len ty
        have hcn := cntF_le s.now
        have hroom := hg.room
        obtain ⟨⟨g0, g1, -, g3, -, -⟩, -⟩ := h.cells
        simp only [St.fl] at g3
        have k0 := fun y : Later w => y.cell g0
        have k3 := fun y : Later w => y.cell g3
        have hg7 : s.now i = none ↔ (s.now i).isSome = false := by simp
        by_cases hfull : s.now i = none ∧ s.room ≤ cntF s.now
        · rw [if_pos hfull]
          obtain ⟨hf1, hf2⟩ := hfull
          rw [hf1] at hl
          simp only [Option.getD_none, Option.isSome_none] at hl
          clear hg7 hf1 h hg
          generalize cntF s.now = n at *
          go_enter Try.func11, Try.ntmps11
          go_upto_region 7 with (first
            | (go_at_call 30; refine hs.mono ?_; rintro e w1 ⟨rfl, rfl⟩)
            | (go_at_call 31; refine ht.mono ?_; rintro e w1 ⟨rfl, rfl⟩))
          refine wp_region_later_lit (by kernel_rfl) (by kernel_rfl) ?_
          repeat (any_goals (first | go_big_quiet_step (fail) | quiet_step (fail)))
          refine wpQuiet_nil ?_
          intro _ hw'
          obtain ⟨y, hw''⟩ := hw'
          subst hw''
          have hy := Lib.hid y.h
          clear hml k0 k3
          generalize y.w = Y at *
          go_wp2
          go_ret
          exact ⟨rfl, PUpd.same hP.out hy.out⟩
        · rw [if_neg hfull]
          have hgd : (!(s.now i).isSome && decide (s.room ≤ (cntF s.now : Int))) = false := by
            cases hx : (s.now i).isSome with
            | true => rfl
            | false =>
              have : ¬ s.room ≤ (cntF s.now : Int) := fun c => hfull ⟨hg7.2 hx, c⟩
              simp [this]
          have HG := Lib.hid hg
          have HW := Lib.hid (And.intro hn hbw)
          have HI := Lib.hid hi
          obtain ⟨old, hold⟩ : ∃ old, old = (s.now i).getD ByteArray.empty := ⟨_, rfl⟩
          obtain ⟨is, his⟩ : ∃ is, is = (s.now i).isSome := ⟨_, rfl⟩
          have HO := Lib.hid hold
          have HS := Lib.hid his
          rw [← hold, ← his] at hl
          rw [← his] at hgd
          clear hg7 hfull h hg hold his hn hbw
          generalize hcc : cntF s.now = n at *
          have HC := Lib.hid hcc
          clear hcc
          cases is with
          | true =>
            clear hgd
            by_cases hbo : (burnS s).off = true
            · rw [if_pos hbo]
              go_enter Try.func11, Try.ntmps11
              go_upto_region 7 with (first
                | (go_at_call 30; refine hs.mono ?_; rintro e w1 ⟨rfl, rfl⟩)
                | (go_at_call 31; refine ht.mono ?_; rintro e w1 ⟨rfl, rfl⟩))
              refine wp_region_later_lit (by kernel_rfl) (by kernel_rfl) ?_
              repeat (any_goals (first | go_big_quiet_step (fail) | quiet_step (fail)))
              refine wpQuiet_nil ?_
              intro _ hw'
              obtain ⟨y, hw''⟩ := hw'
              subst hw''
              have hy := Lib.hid y.h
              have hy2 := y.h
              clear hml k0 k3 hs ht hl g0 g1 g3
              generalize y.w = Y at *
              have hPY := Lib.hid (hP.out.below hy2)
              clear hy2
              have hb := burn_off hPY.out HG.out hbo
              go_wp2_with (go_at_call 32; refine hb.mono ?_; rintro e w1 ⟨rfl, hP1, hM1⟩; have N1 := Lib.hid hP1; have N2 := Lib.hid hM1; clear hP1 hM1)
              go_ret
              exact ⟨rfl, v, N1.out, ((Mod.belowAll hy.out).mono (fun _ _ c => c.elim)).trans N2.out, fun _ h => .inl h⟩
            · rw [if_neg hbo]
              go_enter Try.func11, Try.ntmps11
              go_upto_region 7 with (first
                | (go_at_call 30; refine hs.mono ?_; rintro e w1 ⟨rfl, rfl⟩)
                | (go_at_call 31; refine ht.mono ?_; rintro e w1 ⟨rfl, rfl⟩))
              refine wp_region_later_lit (by kernel_rfl) (by kernel_rfl) ?_
              repeat (any_goals (first | go_big_quiet_step (fail) | quiet_step (fail)))
              refine wpQuiet_nil ?_
              intro _ hw'
              obtain ⟨y, hw''⟩ := hw'
              subst hw''
              have hy := Lib.hid y.h
              have hy2 := y.h
              clear hml k0 k3 hs ht hl g0 g1 g3
              generalize y.w = Y at *
              have hPY := Lib.hid (hP.out.below hy2)
              clear hy2
              have hb := burn_on hPY.out HG.out (by simpa using hbo)
              clear hbo
              obtain ⟨bn1, bn2, bn3, bn4, bn5⟩ := burn_now s
              have BN := Lib.hid (And.intro bn1 (And.intro bn3 bn4))
              have bu : (burnS s).undo = s.undo := by unfold St.undo; rw [bn2, bn3]
              have BU := Lib.hid bu
              have HBG := Lib.hid (good_burn HG.out)
              clear bn1 bn2 bn3 bn4 bn5 bu
              generalize burnS s = s1 at *
              have HWF := Lib.hid hwf
              go_wp2_with (first
                | (go_at_call 32; refine hb.mono ?_; rintro e w1 ⟨rfl, hP1, hM1⟩; have N1 := Lib.hid hP1; have N2 := Lib.hid hM1; obtain ⟨⟨k0, k1, -, -, -, -⟩, kf⟩ := hP1.cells; have k1f := kf 1 (by omega); have HX := Lib.hid (bel1 w1 (.cells #[.int .i64 i, .string old, .bool true] 70)); have k1x := keepc' k1 HX.out; have hlu : s1.undo.length ≤ 1000000 := (by rw [BU.out, St.undo, undoOf_length]; exact HW.out.1); have HLU := Lib.hid hlu; have hsz : base ≤ w1.heap.size := Nat.le_trans (Nat.le_trans HW.out.2 hy.out.size) hM1.size; have HSZ := Lib.hid hsz; clear hlu hsz hP1 hM1 kf)
                | (at_builtin; refine wpList_app (v := v) (base := base) EB TB rfl _ _ rfl rfl (N1.out.own.below HX.out) (some ⟨_, 0, none⟩) 1 1 [(i, old, true)] rfl rfl (sli_lit EB w1 [(i, old, true)] 1 w1.heap.size 70 rfl rfl (by unfold maxLen; omega)).lst (fun e => by cases e) (by have := HLU.out; simp; omega) (by have := HLU.out; unfold maxLen; simp; omega) (Nat.le_trans HSZ.out (by simp)) ?_; intro v2 w2 ho hgr hat; have hm := Lib.hid (((Mod.belowAll HX.out).mono (S' := fun k => v.ownBlock = some k) (fun _ _ c => c.elim)).trans (Mod.grown hgr (fun k hk => hk))); have q0 := hm.out.cell k0 N1.out.not_own.1; have hblk := hm.out.heap N1.out.blk N1.out.not_own.1; have q1 := (cell_of hblk 1 rfl).1; have q1f := (cell_of hblk 1 rfl).2; have hPZ := N1.out.row hm.out N1.out.not_own.1 N1.out.not_own.2.1 ho; obtain ⟨w3, hrun, hM3, ht3⟩ := hPZ.map.put HWF.out (x := b) (by show b.size ≤ maxLen; unfold maxLen; omega) (Nat.lt_of_le_of_lt (cntF_le _) (by unfold maxLen; omega)); have hrun2 : (Instr.mapUpdate 58 (.map (some bm)) (.int .i64 i) (.string b)).run Try.prog (w2.setCell ⟨p, 1, none⟩ v2) = .ok () w3 := hrun; have HO2 := Lib.hid ho; have HGR := Lib.hid hgr; have HAT := Lib.hid hat; have HM3 := Lib.hid hM3; have HT3 := Lib.hid ht3; obtain ⟨a2, c2, rfl, -, -⟩ := ho.sli EB; simp only [List.length_append, List.length_cons, List.length_nil, Nat.zero_add] at hrun2; clear hrun ho hgr hat hblk hPZ hM3 ht3 k0 k1 k1f k1x))
              go_ret
              have hu : OwnB w2 base (.slice a2 (s1.undo ++ [(i, old, true)]).length c2) (s1.undo ++ [(i, (s1.now i).getD ByteArray.empty, (s1.now i).isSome)]) := by
                rw [BN.out.1, ← HO.out, ← HS.out]; exact HO2.out
              have hw := PD.wrote N1.out HBG.out (by rw [BN.out.2.2]; exact HI.out) HX.out HGR.out hu HT3.out HM3.out
              refine ⟨rfl, (show PUpd base p bm v (putS s1 i b) w w3 from ?_)⟩
              refine ⟨_, hw.1, ((Mod.belowAll hy.out).mono (fun _ _ c => c.elim)).trans (N2.out.trans hw.2), fun g hg => ?_⟩
              rcases HAT.out g hg with c | c
              · exact .inl c
              · exact .inr (Nat.le_trans (Nat.le_trans hy.out.size N2.out.size) (Nat.le_trans HX.out.size c))
          | false =>
            have hrm : (n : Int) < s.room := by simpa using hgd
            clear hgd
            by_cases hbo : (burnS s).off = true
            · rw [if_pos hbo]
              go_enter Try.func11, Try.ntmps11
              go_upto_region 7 with (first
                | (go_at_call 30; refine hs.mono ?_; rintro e w1 ⟨rfl, rfl⟩)
                | (go_at_call 31; refine ht.mono ?_; rintro e w1 ⟨rfl, rfl⟩))
              refine wp_region_later_lit (by kernel_rfl) (by kernel_rfl) ?_
              repeat (any_goals (first | go_big_quiet_step (fail) | quiet_step (fail)))
              refine wpQuiet_nil ?_
              intro _ hw'
              obtain ⟨y, hw''⟩ := hw'
              subst hw''
              have hy := Lib.hid y.h
              have hy2 := y.h
              clear hml k0 k3 hs ht hl g0 g1 g3
              generalize y.w = Y at *
              have hPY := Lib.hid (hP.out.below hy2)
              clear hy2
              have hb := burn_off hPY.out HG.out hbo
              go_wp2_with (go_at_call 32; refine hb.mono ?_; rintro e w1 ⟨rfl, hP1, hM1⟩; have N1 := Lib.hid hP1; have N2 := Lib.hid hM1; clear hP1 hM1)
              go_ret
              exact ⟨rfl, v, N1.out, ((Mod.belowAll hy.out).mono (fun _ _ c => c.elim)).trans N2.out, fun _ h => .inl h⟩
            · rw [if_neg hbo]
              go_enter Try.func11, Try.ntmps11
              go_upto_region 7 with (first
                | (go_at_call 30; refine hs.mono ?_; rintro e w1 ⟨rfl, rfl⟩)
                | (go_at_call 31; refine ht.mono ?_; rintro e w1 ⟨rfl, rfl⟩))
              refine wp_region_later_lit (by kernel_rfl) (by kernel_rfl) ?_
              repeat (any_goals (first | go_big_quiet_step (fail) | quiet_step (fail)))
              refine wpQuiet_nil ?_
              intro _ hw'
              obtain ⟨y, hw''⟩ := hw'
              subst hw''
              have hy := Lib.hid y.h
              have hy2 := y.h
              clear hml k0 k3 hs ht hl g0 g1 g3
              generalize y.w = Y at *
              have hPY := Lib.hid (hP.out.below hy2)
              clear hy2
              have hb := burn_on hPY.out HG.out (by simpa using hbo)
              clear hbo
              obtain ⟨bn1, bn2, bn3, bn4, bn5⟩ := burn_now s
              have BN := Lib.hid (And.intro bn1 (And.intro bn3 bn4))
              have bu : (burnS s).undo = s.undo := by unfold St.undo; rw [bn2, bn3]
              have BU := Lib.hid bu
              have HBG := Lib.hid (good_burn HG.out)
              clear bn1 bn2 bn3 bn4 bn5 bu
              generalize burnS s = s1 at *
              have HWF := Lib.hid hwf
              go_wp2_with (first
                | (go_at_call 32; refine hb.mono ?_; rintro e w1 ⟨rfl, hP1, hM1⟩; have N1 := Lib.hid hP1; have N2 := Lib.hid hM1; obtain ⟨⟨k0, k1, -, -, -, -⟩, kf⟩ := hP1.cells; have k1f := kf 1 (by omega); have HX := Lib.hid (bel1 w1 (.cells #[.int .i64 i, .string old, .bool false] 70)); have k1x := keepc' k1 HX.out; have hlu : s1.undo.length ≤ 1000000 := (by rw [BU.out, St.undo, undoOf_length]; exact HW.out.1); have HLU := Lib.hid hlu; have hsz : base ≤ w1.heap.size := Nat.le_trans (Nat.le_trans HW.out.2 hy.out.size) hM1.size; have HSZ := Lib.hid hsz; clear hlu hsz hP1 hM1 kf)
                | (at_builtin; refine wpList_app (v := v) (base := base) EB TB rfl _ _ rfl rfl (N1.out.own.below HX.out) (some ⟨_, 0, none⟩) 1 1 [(i, old, false)] rfl rfl (sli_lit EB w1 [(i, old, false)] 1 w1.heap.size 70 rfl rfl (by unfold maxLen; omega)).lst (fun e => by cases e) (by have := HLU.out; simp; omega) (by have := HLU.out; unfold maxLen; simp; omega) (Nat.le_trans HSZ.out (by simp)) ?_; intro v2 w2 ho hgr hat; have hm := Lib.hid (((Mod.belowAll HX.out).mono (S' := fun k => v.ownBlock = some k) (fun _ _ c => c.elim)).trans (Mod.grown hgr (fun k hk => hk))); have q0 := hm.out.cell k0 N1.out.not_own.1; have hblk := hm.out.heap N1.out.blk N1.out.not_own.1; have q1 := (cell_of hblk 1 rfl).1; have q1f := (cell_of hblk 1 rfl).2; have hPZ := N1.out.row hm.out N1.out.not_own.1 N1.out.not_own.2.1 ho; obtain ⟨w3, hrun, hM3, ht3⟩ := hPZ.map.put HWF.out (x := b) (by show b.size ≤ maxLen; unfold maxLen; omega) (Nat.lt_of_le_of_lt (cntF_le _) (by unfold maxLen; omega)); have hrun2 : (Instr.mapUpdate 58 (.map (some bm)) (.int .i64 i) (.string b)).run Try.prog (w2.setCell ⟨p, 1, none⟩ v2) = .ok () w3 := hrun; have HO2 := Lib.hid ho; have HGR := Lib.hid hgr; have HAT := Lib.hid hat; have HM3 := Lib.hid hM3; have HT3 := Lib.hid ht3; obtain ⟨a2, c2, rfl, -, -⟩ := ho.sli EB; simp only [List.length_append, List.length_cons, List.length_nil, Nat.zero_add] at hrun2; clear hrun ho hgr hat hblk hPZ hM3 ht3 k0 k1 k1f k1x))
              go_ret
              have hu : OwnB w2 base (.slice a2 (s1.undo ++ [(i, old, false)]).length c2) (s1.undo ++ [(i, (s1.now i).getD ByteArray.empty, (s1.now i).isSome)]) := by
                rw [BN.out.1, ← HO.out, ← HS.out]; exact HO2.out
              have hw := PD.wrote N1.out HBG.out (by rw [BN.out.2.2]; exact HI.out) HX.out HGR.out hu HT3.out HM3.out
              refine ⟨rfl, (show PUpd base p bm v (putS s1 i b) w w3 from ?_)⟩
              refine ⟨_, hw.1, ((Mod.belowAll hy.out).mono (fun _ _ c => c.elim)).trans (N2.out.trans hw.2), fun g hg => ?_⟩
              rcases HAT.out g hg with c | c
              · exact .inl c
              · exact .inr (Nat.le_trans (Nat.le_trans hy.out.size N2.out.size) (Nat.le_trans HX.out.size c))
      · rw [if_pos (by simp [hb])]
        have hb32 : ¬ (b.size : Int) = 32 := by omega
        clear h hg
        go_enter Try.func11, Try.ntmps11
        go_wp2_with (first
          | (go_at_call 30; refine hs.mono ?_; rintro e w1 ⟨rfl, rfl⟩)
          | (go_at_call 31; refine ht.mono ?_; rintro e w1 ⟨rfl, rfl⟩))
        go_ret
        exact ⟨rfl, PUpd.same hP.out (Below.refl _ _)⟩
    · rw [show inB s.fl.len i = false from decide_eq_false hi] at ht
      rw [if_pos (by simp [hi])]
      clear h hg
      go_enter Try.func11, Try.ntmps11
      go_wp2_with (first
        | (go_at_call 30; refine hs.mono ?_; rintro e w1 ⟨rfl, rfl⟩)
        | (go_at_call 31; refine ht.mono ?_; rintro e w1 ⟨rfl, rfl⟩))
      go_ret
      exact ⟨rfl, PUpd.same hP.out (Below.refl _ _)⟩
end Go.Proofs.Ytcgkdomfbkkboaa
