/- The reference is written. -/
import Derived.Test.YtcgkdomfbkkboaaRPut
import Derived.Test.YtcgkdomfbkkboaaHeldLast
namespace Go.Proofs.Ytcgkdomfbkkboaa
open Go.RowKit Go.Joins Go.ChangeMaps

theorem bel_drewN (w : World) (n : Nat) : Below w.heap.size w (w.drewN n) := (Mod.drewN (S := fun _ => False) w n).below (Nat.le_refl _) (fun _ c => c.elim)
theorem Good.sizes {s : St} (h : Good s) (i : Int) : ((s.now i).getD ByteArray.empty).size = 0 ↔ s.now i = none := by
  cases hx : s.now i with
  | none => simp
  | some x => have := (h.now i x hx).2.2; simp [this]
theorem RD.put {w : World} {base q : Nat} {bv nv mv : Value} {s : St} {i : Nat} {d : BA} (hg : Good s) (hi : (i : Int) < s.len) (h : RR w base q bv nv mv s.fl (usesOf (cntF s.now) ((rowOf s.now s.len).getD i default)) (rowOf s.base s.len) ((rowOf s.now s.len).set i d) (s.more ++ [((i : Int), d)])) : RD w base q bv nv mv (putS s i d) := by
  have e2 : (putS s i d).now = upd s.now i (some d) := apply_snoc s.base s.more (i, d)
  have hlen := hg.len
  show RR _ _ _ _ _ _ s.fl (cntF (putS s i d).now) (rowOf s.base s.len) (rowOf (putS s i d).now s.len) (s.more ++ [((i : Int), d)])
  rw [e2, cntF_put (by omega) (by omega), ← rowOf_set _ hi]
  have e : usesOf (cntF s.now) ((rowOf s.now s.len).getD i default) = ((if (s.now (i : Int)).isSome = true then cntF s.now else cntF s.now + 1 : Nat) : Int) := by
    rw [rowOf_get _ hi]
    unfold usesOf
    cases hx : s.now (i : Int) with
    | none => simp
    | some x => have := (hg.now _ x hx).2.2; simp [this]
  rw [e] at h
  exact h
set_option linter.unusedSimpArgs false in
set_option maxHeartbeats 4000000 in
set_option maxRecDepth 100000 in
theorem rwrite_any {w : World} {base q : Nat} {bv nv mv : Value} {s : St} (i : Int) (b : BA) (h : RD w base q bv nv mv s) (hg : Good s) (hn : s.more.length ≤ 1000000) (hbw : base ≤ w.heap.size) :
    Calls Try.prog 13 #[.pointer (some ⟨q, 0, none⟩), .int .i64 i, .string b] w (TupI (writeR s i b).1 (RUpd base q bv nv mv (writeR s i b).2 w)) := by
  have mixed : Try.prog.follows .mixedOrders = true := by kernel_rfl
  have hP := Lib.hid h
  have HG := Lib.hid hg
  have hlen := hg.len
  obtain ⟨⟨g0, g1, -, g3, g4, -, -, g7⟩, gf⟩ := h.cells
  simp only [St.fl] at g0 g1 g7
  clear gf
  unfold writeR
  by_cases ho : s.off = true
  · rw [if_pos ho]
    rw [ho] at g7
    simp only [Bool.not_true] at g7
    clear h hg g0 g1 g3 g4 hlen
    go_enter Try.func13, Try.ntmps13
    go_wp2
    go_ret
    exact ⟨rfl, RUpd.same hP.out (Below.refl _ _)⟩
  · rw [if_neg ho]
    have ho2 : s.off = false := by simpa using ho
    rw [ho2] at g7
    simp only [Bool.not_false] at g7
    clear ho
    by_cases hi : 0 ≤ i ∧ i < s.len
    · obtain ⟨n, rfl⟩ : ∃ n : Nat, i = n := ⟨i.toNat, by omega⟩
      have hi1 := hi.2
      by_cases hb : b.size = 32
      · rw [if_neg (by simp [hi, hb])]
        have hb32 : ((b.size : Int) != 32) = false := by simp; omega
        have HB := Lib.hid hb
        have hin : n < (rowOf s.now s.len).length := by rw [rowOf_length]; omega
        obtain ⟨g, cap, rfl, hc, hf⟩ := ownS_cell h.on hin
        rw [rowOf_get _ hi1] at hc
        have hsz := hg.sizes n
        have hcn := cntF_le s.now
        have hll : (n : Int) < ((rowOf s.now s.len).length : Int) := by omega
        by_cases hfull : s.now n = none ∧ s.room ≤ cntF s.now
        · rw [if_pos hfull]
          obtain ⟨hf1, hf2⟩ := hfull
          rw [hf1] at hc
          simp only [Option.getD_none] at hc
          clear hf1 h hg hf hsz hin
          generalize (rowOf s.now s.len).length = m at *
          generalize cntF s.now = k at *
          go_enter Try.func13, Try.ntmps13
          go_upto_region 5 with fail
          go_quiet (fail)
          go_wp2
          go_ret
          exact ⟨rfl, RUpd.same hP.out (bel_drewN _ _)⟩
        · rw [if_neg hfull]
          have HN := Lib.hid hn
          have HBW := Lib.hid hbw
          have HI2 := Lib.hid hll
          cases hx : s.now (n : Int) with
          | some x =>
            rw [hx] at hc
            simp only [Option.getD_some] at hc
            have hxe : (ByteArray.toList x).isEmpty = false := by rw [emptyB]; have := (hg.now _ x hx).2.2; simp [this]
            clear hx hfull h hg hn hbw hin
            by_cases hbo : (burnS s).off = true
            · rw [if_pos hbo]
              clear hsz hf hlen
              generalize hmm : (rowOf s.now s.len).length = m at *
              have HMM := Lib.hid hmm
              clear hmm
              go_enter Try.func13, Try.ntmps13
              go_upto_region 5 with fail
              go_quiet (fail)
              go_upto_region 7 with fail
              have hPY := Lib.hid (hP.out.mod (Mod.drewN (S := fun _ => False) w nq) (fun _ _ c => c))
              have hMY := Lib.hid (Mod.drewN (S := RF q bv (.slice (some ⟨g, 0, none⟩) m cap) mv) w nq)
              have hsy := Lib.hid (show (w.drewN nq).heap.size = w.heap.size from rfl)
              clear g0 g1 g3 g4 g7 hc hP
              generalize w.drewN nq = Y at *
              have HOP := Lib.hid (rop_any hPY.out HG.out ho2)
              rw [hbo] at HOP
              go_wp2_with (go_at_call 33; refine HOP.out.mono ?_; rintro e w1 ⟨rfl, hP1, hM1⟩; have N1 := Lib.hid hP1; have N2 := Lib.hid hM1; clear hP1 hM1)
              go_ret
              exact ⟨rfl, RUpd.fixed N1.out (hMY.out.trans N2.out)⟩
            · rw [if_neg hbo]
              clear hsz hf hlen
              generalize hmm : (rowOf s.now s.len).length = m at *
              have HMM := Lib.hid hmm
              clear hmm
              go_enter Try.func13, Try.ntmps13
              go_upto_region 5 with fail
              go_quiet (fail)
              go_upto_region 7 with fail
              have hPY := Lib.hid (hP.out.mod (Mod.drewN (S := fun _ => False) w nq) (fun _ _ c => c))
              have hMY := Lib.hid (Mod.drewN (S := RF q bv (.slice (some ⟨g, 0, none⟩) m cap) mv) w nq)
              have hsy := Lib.hid (show (w.drewN nq).heap.size = w.heap.size from rfl)
              clear g0 g1 g3 g4 g7 hc hP
              generalize w.drewN nq = Y at *
              have HOP := Lib.hid (rop_any hPY.out HG.out ho2)
              have hbo2 : (burnS s).off = false := by simpa using hbo
              rw [hbo2] at HOP
              obtain ⟨bn1, bn2, bn3, bn4, bn5⟩ := burn_now s
              have BN := Lib.hid (And.intro bn1 (And.intro bn2 (And.intro bn3 bn4)))
              have HBG := Lib.hid (good_burn HG.out)
              have HML := Lib.hid (show (burnS s).more.length ≤ 1000000 by rw [bn3]; exact HN.out)
              have HI := Lib.hid (show (n : Int) < (burnS s).len by rw [bn4]; exact hi1)
              have HMM1 := Lib.hid (show (rowOf (burnS s).now (burnS s).len).length = m by rw [bn1, bn4]; exact HMM.out)
              clear bn1 bn2 bn3 bn4 bn5 hbo hbo2
              generalize burnS s = s1 at *
              go_upto_region 10 with (go_at_call 33; refine HOP.out.mono ?_; rintro e w1 ⟨rfl, hP1, hM1⟩; have N1 := Lib.hid hP1; have N2 := Lib.hid hM1; clear hP1 hM1)
              obtain ⟨X, hX⟩ : ∃ X, X = w1.alloc (.cells #[.int .i64 (n : Int), .string b] 68) := ⟨_, rfl⟩
              obtain ⟨z, hz⟩ : ∃ z, z = w1.heap.size := ⟨_, rfl⟩
              have hBX : Below w1.heap.size w1 X := by rw [hX]; exact bel1 _ _
              have k8 : X.cell? ⟨z, 0, none⟩ = some (.int .i64 (n : Int)) := by rw [hX, World.cell?_alloc_at _ _ _ _ hz]; rfl
              have k9 : X.cell? ⟨z, 1, none⟩ = some (.string b) := by rw [hX, World.cell?_alloc_at _ _ _ _ hz]; rfl
              have hR := N1.out.below hBX
              have HZL := Lib.hid (fun k hk => (N1.out.lt k hk).2)
              have HZ := Lib.hid (show (¬ Value.ownBlock mv = some z) ∧ z ≠ q from ⟨fun e => by have := HZL.out z (.inr (.inr (.inr e))); omega, fun e => by have := HZL.out z (.inl e); omega⟩)
              have HSZ := Lib.hid (show base ≤ X.heap.size from Nat.le_trans (Nat.le_trans (Nat.le_trans HBW.out (Nat.le_of_eq hsy.out.symm)) N2.out.size) hBX.size)
              have HMX := Lib.hid ((hMY.out.trans N2.out).trans ((Mod.belowAll hBX).mono (fun _ _ c => c.elim)))
              have HSX := Lib.hid (show w.heap.size ≤ X.heap.size from HMX.out.size)
              rw [← hX, ← hz]
              clear hX hz hBX HZL
              obtain ⟨⟨-, -, -, -, -, k5, -, -⟩, kf⟩ := hR.cells
              have kf5 := kf 5 (by omega)
              have HR := Lib.hid hR
              have HNO := Lib.hid hR.not_own
              obtain ⟨ma, mc, hmv, -, -⟩ := hR.om.sli EW
              subst hmv
              clear kf hR N1 hPY
              refine wp_region_noPanic ?_
              refine wp_region_last (fun w' => w'.cell? ⟨q, 5, none⟩ = some (.slice ma s1.more.length mc) ∧ w'.cell? ⟨z, 0, none⟩ = some (.int .i64 (n : Int)) ∧ w'.cell? ⟨z, 1, none⟩ = some (.string b)) (by kernel_rfl) ⟨k5, k8, k9⟩ (fun hS0 => ?_)
              refine wpAnyL_take 0 (v := ?_) rfl (by kernel_rfl) (fun _ _ _ h => h) (Or.inl ⟨by kernel_rfl, ?_⟩) (by assumption) ?_
              rotate_left
              · (intro w5 hSw; (try dsimp only at hSw); go_split_ands; go_simp; (try with_reducible rfl))
              try simp only [Act.put, List.setIfInBounds_toArray, List.set_cons_zero, List.set_cons_succ]
              refine wpAnyL_take 1 (v := ?_) rfl (by kernel_rfl) (fun _ _ _ h => h) (Or.inl ⟨by kernel_rfl, ?_⟩) (by assumption) ?_
              rotate_left
              · (intro w5 hSw; (try dsimp only at hSw); go_split_ands; go_simp; (try with_reducible rfl))
              try simp only [Act.put, List.setIfInBounds_toArray, List.set_cons_zero, List.set_cons_succ]
              refine wpAnyL_take 2 (v := ?_) rfl (by kernel_rfl) (fun _ _ _ h => h) (Or.inl ⟨by kernel_rfl, ?_⟩) (by assumption) ?_
              rotate_left
              · (intro w5 hSw; (try dsimp only at hSw); go_split_ands; go_simp; (try with_reducible rfl))
              try simp only [Act.put, List.setIfInBounds_toArray, List.set_cons_zero, List.set_cons_succ]
              refine wpAnyL_take 3 (v := ?_) rfl (by kernel_rfl) (fun _ _ _ h => h) (Or.inl ⟨by kernel_rfl, ?_⟩) (by assumption) ?_
              rotate_left
              · (intro w5 hSw; (try dsimp only at hSw); go_split_ands; go_simp; (try with_reducible rfl))
              try simp only [Act.put, List.setIfInBounds_toArray, List.set_cons_zero, List.set_cons_succ]
              refine wpAnyL_take 4 (v := ?_) rfl (by kernel_rfl) (fun _ _ _ h => h) (Or.inl ⟨by kernel_rfl, ?_⟩) (by assumption) ?_
              rotate_left
              · (intro w5 hSw; (try dsimp only at hSw); go_split_ands; go_simp; (try with_reducible rfl))
              try simp only [Act.put, List.setIfInBounds_toArray, List.set_cons_zero, List.set_cons_succ]
              refine wpAnyL_take 5 (v := ?_) rfl (by kernel_rfl) (fun _ _ _ h => h) (Or.inl ⟨by kernel_rfl, ?_⟩) (by assumption) ?_
              rotate_left
              · (intro w5 hSw; (try dsimp only at hSw); go_split_ands; go_simp; (try with_reducible rfl))
              try simp only [Act.put, List.setIfInBounds_toArray, List.set_cons_zero, List.set_cons_succ]
              refine wpAnyL_step 6 (by kernel_rfl) (by rfl) (fun K5 hK => ?_)
              go_simp
              refine hK.out _ _ ⟨(fun o => keepc' k5 (bel1 X o)) _, (fun o => keepc' k8 (bel1 X o)) _, (fun o => keepc' k9 (bel1 X o)) _⟩ (fun hS1 => ?_)
              clear hK K5
              try simp only [Act.put, List.setIfInBounds_toArray, List.set_cons_zero, List.set_cons_succ]
              refine wpAnyL_step 7 (by kernel_rfl) (by rfl) (fun K5 hK => ?_)
              refine step_app (v := .slice ma s1.more.length mc) (base := base) EW TW rfl (.tmp 57) (.tmp 59) rfl (by simp [Act.eval]) (HR.out.om.below (bel1 X _).drew) (some ⟨_, 0, none⟩) 1 1 [((n : Int), b)] rfl (by simp [Act.eval]) ((sli_lit EW X [((n : Int), b)] 1 _ 68 rfl rfl (by unfold maxLen; omega)).lst.below (Below.refl _ _).drew) (fun e => by cases e) (by have := HML.out; simp; omega) (by have := HML.out; unfold maxLen; simp; omega) (by have := HSZ.out; simp; omega) ?_; intro mv2 w3 ho hgr hat; have ho1 := ho; obtain ⟨ma2, mc2, hv2, -, -⟩ := ho.sli EW; subst hv2; have hm := Lib.hid (((Mod.belowAll (bel1 X (.cells #[.int .i64 (n : Int), .string b] 68)).drew).mono (S' := fun k => Value.ownBlock (.slice ma s1.more.length mc) = some k) (fun _ _ c => c.elim)).trans (Mod.grown hgr (fun k hk => hk))); have kb5 := cell_of (hm.out.heap HR.out.blk HNO.out.2.2.1) 5 rfl; have kc5 := kb5.1; have kd5 := kb5.2
              refine hK.out _ _ ⟨hm.out.cell k5 HNO.out.2.2.1, hm.out.cell k8 HZ.out.1, hm.out.cell k9 HZ.out.1⟩ (fun hS2 => ?_)
              clear hK K5
              try simp only [Act.put, List.setIfInBounds_toArray, List.set_cons_zero, List.set_cons_succ]
              refine wpAnyL_take 8 (v := ?_) rfl (by kernel_rfl) (fun _ _ _ h => h) (Or.inl ⟨by kernel_rfl, ?_⟩) (by assumption) ?_
              rotate_left
              · (intro w5 hSw; (try dsimp only at hSw); go_split_ands; go_simp; (try with_reducible rfl))
              try simp only [Act.put, List.setIfInBounds_toArray, List.set_cons_zero, List.set_cons_succ]
              refine wpAnyL_take 9 (v := ?_) rfl (by kernel_rfl) (fun _ _ _ h => h) (Or.inl ⟨by kernel_rfl, ?_⟩) (by assumption) ?_
              rotate_left
              · (intro w5 hSw; (try dsimp only at hSw); go_split_ands; go_simp; (try with_reducible rfl))
              try simp only [Act.put, List.setIfInBounds_toArray, List.set_cons_zero, List.set_cons_succ]
              refine wpAnyL_end 10 (by kernel_rfl) (by rfl) (by kernel_rfl) (by kernel_rfl) (fun K5 hK => ?_)
              go_simp
              refine hK.out _ _ (NoPanic.normal ?_)
              clear hK K5
              skip
              have HR2 := Lib.hid (HR.out.more hm.out HNO.out.2.2.1 HNO.out.2.2.2.1 HNO.out.2.2.2.2 ho1)
              have e8 := (Mod.cellOf q 5 (.slice ma2 (s1.more ++ [((n : Int), b)]).length mc2) : Mod (fun k => k = q) w3 _).cell (hm.out.cell k8 HZ.out.1) HZ.out.2
              have e9 := (Mod.cellOf q 5 (.slice ma2 (s1.more ++ [((n : Int), b)]).length mc2) : Mod (fun k => k = q) w3 _).cell (hm.out.cell k9 HZ.out.1) HZ.out.2
              have HAT := Lib.hid hat
              have HM3 := Lib.hid (HMX.out.trans ((hm.out.mono (S' := RF q bv (.slice (some ⟨g, 0, none⟩) m cap) (.slice ma s1.more.length mc)) (fun k _ hk => .inr (.inr (.inr hk)))).trans ((Mod.cellOf q 5 (.slice ma2 (s1.more ++ [((n : Int), b)]).length mc2)).mono (fun k _ hk => .inl hk))))
              clear kb5 kc5 kd5 hS0 hS1 hS2 k5 k8 k9 kf5 ho ho1 hgr hat hm HMX
              simp only [List.length_append, List.length_cons, List.length_nil, Nat.zero_add] at e8 e9 HR2 HM3 HAT
              generalize w3.setCell ⟨q, 5, none⟩ (.slice ma2 (s1.more.length + 1) mc2) = Z at *
              have HPUT := Lib.hid (rput_any n b HR2.out (by rw [HMM1.out]; have := HI2.out; omega) (by omega) (by have := cntF_le s1.now; omega))
              go_wp2_with (go_at_call 34; refine HPUT.out.mono ?_; rintro e w4 ⟨rfl, hP4, hM4⟩; have N4 := Lib.hid hP4; have M4 := Lib.hid hM4; clear hP4 hM4)
              go_ret
              refine ⟨rfl, (show RUpd base q bv (.slice (some ⟨g, 0, none⟩) m cap) (.slice ma s1.more.length mc) (putS s1 n b) w w4 from ?_)⟩
              refine ⟨_, RD.put HBG.out HI.out N4.out, HM3.out.then M4.out (fun k hk hs => ?_), fun gg hgg => (HAT.out gg hgg).imp id (fun c => by have := HSX.out; simp at c; omega)⟩
              rcases hs with c | c | c | c
              · exact .inl c
              · exact .inr (.inl c)
              · exact .inr (.inr (.inl c))
              · rcases HAT.out k c with d | d
                · exact .inr (.inr (.inr d))
                · have := HSX.out; simp at d; omega
          | none =>
            rw [hx] at hc
            simp only [Option.getD_none] at hc
            have hcm : ((cntF s.now : Nat) : Int) < s.room := by have : ¬ s.room ≤ (cntF s.now : Int) := fun c => hfull ⟨hx, c⟩; omega
            clear hx hfull h hg hn hbw hin
            by_cases hbo : (burnS s).off = true
            · rw [if_pos hbo]
              clear hsz hf hlen
              generalize hmm : (rowOf s.now s.len).length = m at *
              have HMM := Lib.hid hmm
              clear hmm
              go_enter Try.func13, Try.ntmps13
              go_upto_region 5 with fail
              go_quiet (fail)
              go_upto_region 7 with fail
              have hPY := Lib.hid (hP.out.mod (Mod.drewN (S := fun _ => False) w nq) (fun _ _ c => c))
              have hMY := Lib.hid (Mod.drewN (S := RF q bv (.slice (some ⟨g, 0, none⟩) m cap) mv) w nq)
              have hsy := Lib.hid (show (w.drewN nq).heap.size = w.heap.size from rfl)
              clear g0 g1 g3 g4 g7 hc hP
              generalize w.drewN nq = Y at *
              have HOP := Lib.hid (rop_any hPY.out HG.out ho2)
              rw [hbo] at HOP
              go_wp2_with (go_at_call 33; refine HOP.out.mono ?_; rintro e w1 ⟨rfl, hP1, hM1⟩; have N1 := Lib.hid hP1; have N2 := Lib.hid hM1; clear hP1 hM1)
              go_ret
              exact ⟨rfl, RUpd.fixed N1.out (hMY.out.trans N2.out)⟩
            · rw [if_neg hbo]
              clear hsz hf hlen
              generalize hmm : (rowOf s.now s.len).length = m at *
              have HMM := Lib.hid hmm
              clear hmm
              go_enter Try.func13, Try.ntmps13
              go_upto_region 5 with fail
              go_quiet (fail)
              go_upto_region 7 with fail
              have hPY := Lib.hid (hP.out.mod (Mod.drewN (S := fun _ => False) w nq) (fun _ _ c => c))
              have hMY := Lib.hid (Mod.drewN (S := RF q bv (.slice (some ⟨g, 0, none⟩) m cap) mv) w nq)
              have hsy := Lib.hid (show (w.drewN nq).heap.size = w.heap.size from rfl)
              clear g0 g1 g3 g4 g7 hc hP
              generalize w.drewN nq = Y at *
              have HOP := Lib.hid (rop_any hPY.out HG.out ho2)
              have hbo2 : (burnS s).off = false := by simpa using hbo
              rw [hbo2] at HOP
              obtain ⟨bn1, bn2, bn3, bn4, bn5⟩ := burn_now s
              have BN := Lib.hid (And.intro bn1 (And.intro bn2 (And.intro bn3 bn4)))
              have HBG := Lib.hid (good_burn HG.out)
              have HML := Lib.hid (show (burnS s).more.length ≤ 1000000 by rw [bn3]; exact HN.out)
              have HI := Lib.hid (show (n : Int) < (burnS s).len by rw [bn4]; exact hi1)
              have HMM1 := Lib.hid (show (rowOf (burnS s).now (burnS s).len).length = m by rw [bn1, bn4]; exact HMM.out)
              clear bn1 bn2 bn3 bn4 bn5 hbo hbo2
              generalize burnS s = s1 at *
              go_upto_region 10 with (go_at_call 33; refine HOP.out.mono ?_; rintro e w1 ⟨rfl, hP1, hM1⟩; have N1 := Lib.hid hP1; have N2 := Lib.hid hM1; clear hP1 hM1)
              obtain ⟨X, hX⟩ : ∃ X, X = w1.alloc (.cells #[.int .i64 (n : Int), .string b] 68) := ⟨_, rfl⟩
              obtain ⟨z, hz⟩ : ∃ z, z = w1.heap.size := ⟨_, rfl⟩
              have hBX : Below w1.heap.size w1 X := by rw [hX]; exact bel1 _ _
              have k8 : X.cell? ⟨z, 0, none⟩ = some (.int .i64 (n : Int)) := by rw [hX, World.cell?_alloc_at _ _ _ _ hz]; rfl
              have k9 : X.cell? ⟨z, 1, none⟩ = some (.string b) := by rw [hX, World.cell?_alloc_at _ _ _ _ hz]; rfl
              have hR := N1.out.below hBX
              have HZL := Lib.hid (fun k hk => (N1.out.lt k hk).2)
              have HZ := Lib.hid (show (¬ Value.ownBlock mv = some z) ∧ z ≠ q from ⟨fun e => by have := HZL.out z (.inr (.inr (.inr e))); omega, fun e => by have := HZL.out z (.inl e); omega⟩)
              have HSZ := Lib.hid (show base ≤ X.heap.size from Nat.le_trans (Nat.le_trans (Nat.le_trans HBW.out (Nat.le_of_eq hsy.out.symm)) N2.out.size) hBX.size)
              have HMX := Lib.hid ((hMY.out.trans N2.out).trans ((Mod.belowAll hBX).mono (fun _ _ c => c.elim)))
              have HSX := Lib.hid (show w.heap.size ≤ X.heap.size from HMX.out.size)
              rw [← hX, ← hz]
              clear hX hz hBX HZL
              obtain ⟨⟨-, -, -, -, -, k5, -, -⟩, kf⟩ := hR.cells
              have kf5 := kf 5 (by omega)
              have HR := Lib.hid hR
              have HNO := Lib.hid hR.not_own
              obtain ⟨ma, mc, hmv, -, -⟩ := hR.om.sli EW
              subst hmv
              clear kf hR N1 hPY
              refine wp_region_noPanic ?_
              refine wp_region_last (fun w' => w'.cell? ⟨q, 5, none⟩ = some (.slice ma s1.more.length mc) ∧ w'.cell? ⟨z, 0, none⟩ = some (.int .i64 (n : Int)) ∧ w'.cell? ⟨z, 1, none⟩ = some (.string b)) (by kernel_rfl) ⟨k5, k8, k9⟩ (fun hS0 => ?_)
              refine wpAnyL_take 0 (v := ?_) rfl (by kernel_rfl) (fun _ _ _ h => h) (Or.inl ⟨by kernel_rfl, ?_⟩) (by assumption) ?_
              rotate_left
              · (intro w5 hSw; (try dsimp only at hSw); go_split_ands; go_simp; (try with_reducible rfl))
              try simp only [Act.put, List.setIfInBounds_toArray, List.set_cons_zero, List.set_cons_succ]
              refine wpAnyL_take 1 (v := ?_) rfl (by kernel_rfl) (fun _ _ _ h => h) (Or.inl ⟨by kernel_rfl, ?_⟩) (by assumption) ?_
              rotate_left
              · (intro w5 hSw; (try dsimp only at hSw); go_split_ands; go_simp; (try with_reducible rfl))
              try simp only [Act.put, List.setIfInBounds_toArray, List.set_cons_zero, List.set_cons_succ]
              refine wpAnyL_take 2 (v := ?_) rfl (by kernel_rfl) (fun _ _ _ h => h) (Or.inl ⟨by kernel_rfl, ?_⟩) (by assumption) ?_
              rotate_left
              · (intro w5 hSw; (try dsimp only at hSw); go_split_ands; go_simp; (try with_reducible rfl))
              try simp only [Act.put, List.setIfInBounds_toArray, List.set_cons_zero, List.set_cons_succ]
              refine wpAnyL_take 3 (v := ?_) rfl (by kernel_rfl) (fun _ _ _ h => h) (Or.inl ⟨by kernel_rfl, ?_⟩) (by assumption) ?_
              rotate_left
              · (intro w5 hSw; (try dsimp only at hSw); go_split_ands; go_simp; (try with_reducible rfl))
              try simp only [Act.put, List.setIfInBounds_toArray, List.set_cons_zero, List.set_cons_succ]
              refine wpAnyL_take 4 (v := ?_) rfl (by kernel_rfl) (fun _ _ _ h => h) (Or.inl ⟨by kernel_rfl, ?_⟩) (by assumption) ?_
              rotate_left
              · (intro w5 hSw; (try dsimp only at hSw); go_split_ands; go_simp; (try with_reducible rfl))
              try simp only [Act.put, List.setIfInBounds_toArray, List.set_cons_zero, List.set_cons_succ]
              refine wpAnyL_take 5 (v := ?_) rfl (by kernel_rfl) (fun _ _ _ h => h) (Or.inl ⟨by kernel_rfl, ?_⟩) (by assumption) ?_
              rotate_left
              · (intro w5 hSw; (try dsimp only at hSw); go_split_ands; go_simp; (try with_reducible rfl))
              try simp only [Act.put, List.setIfInBounds_toArray, List.set_cons_zero, List.set_cons_succ]
              refine wpAnyL_step 6 (by kernel_rfl) (by rfl) (fun K5 hK => ?_)
              go_simp
              refine hK.out _ _ ⟨(fun o => keepc' k5 (bel1 X o)) _, (fun o => keepc' k8 (bel1 X o)) _, (fun o => keepc' k9 (bel1 X o)) _⟩ (fun hS1 => ?_)
              clear hK K5
              try simp only [Act.put, List.setIfInBounds_toArray, List.set_cons_zero, List.set_cons_succ]
              refine wpAnyL_step 7 (by kernel_rfl) (by rfl) (fun K5 hK => ?_)
              refine step_app (v := .slice ma s1.more.length mc) (base := base) EW TW rfl (.tmp 57) (.tmp 59) rfl (by simp [Act.eval]) (HR.out.om.below (bel1 X _).drew) (some ⟨_, 0, none⟩) 1 1 [((n : Int), b)] rfl (by simp [Act.eval]) ((sli_lit EW X [((n : Int), b)] 1 _ 68 rfl rfl (by unfold maxLen; omega)).lst.below (Below.refl _ _).drew) (fun e => by cases e) (by have := HML.out; simp; omega) (by have := HML.out; unfold maxLen; simp; omega) (by have := HSZ.out; simp; omega) ?_; intro mv2 w3 ho hgr hat; have ho1 := ho; obtain ⟨ma2, mc2, hv2, -, -⟩ := ho.sli EW; subst hv2; have hm := Lib.hid (((Mod.belowAll (bel1 X (.cells #[.int .i64 (n : Int), .string b] 68)).drew).mono (S' := fun k => Value.ownBlock (.slice ma s1.more.length mc) = some k) (fun _ _ c => c.elim)).trans (Mod.grown hgr (fun k hk => hk))); have kb5 := cell_of (hm.out.heap HR.out.blk HNO.out.2.2.1) 5 rfl; have kc5 := kb5.1; have kd5 := kb5.2
              refine hK.out _ _ ⟨hm.out.cell k5 HNO.out.2.2.1, hm.out.cell k8 HZ.out.1, hm.out.cell k9 HZ.out.1⟩ (fun hS2 => ?_)
              clear hK K5
              try simp only [Act.put, List.setIfInBounds_toArray, List.set_cons_zero, List.set_cons_succ]
              refine wpAnyL_take 8 (v := ?_) rfl (by kernel_rfl) (fun _ _ _ h => h) (Or.inl ⟨by kernel_rfl, ?_⟩) (by assumption) ?_
              rotate_left
              · (intro w5 hSw; (try dsimp only at hSw); go_split_ands; go_simp; (try with_reducible rfl))
              try simp only [Act.put, List.setIfInBounds_toArray, List.set_cons_zero, List.set_cons_succ]
              refine wpAnyL_take 9 (v := ?_) rfl (by kernel_rfl) (fun _ _ _ h => h) (Or.inl ⟨by kernel_rfl, ?_⟩) (by assumption) ?_
              rotate_left
              · (intro w5 hSw; (try dsimp only at hSw); go_split_ands; go_simp; (try with_reducible rfl))
              try simp only [Act.put, List.setIfInBounds_toArray, List.set_cons_zero, List.set_cons_succ]
              refine wpAnyL_end 10 (by kernel_rfl) (by rfl) (by kernel_rfl) (by kernel_rfl) (fun K5 hK => ?_)
              go_simp
              refine hK.out _ _ (NoPanic.normal ?_)
              clear hK K5
              skip
              have HR2 := Lib.hid (HR.out.more hm.out HNO.out.2.2.1 HNO.out.2.2.2.1 HNO.out.2.2.2.2 ho1)
              have e8 := (Mod.cellOf q 5 (.slice ma2 (s1.more ++ [((n : Int), b)]).length mc2) : Mod (fun k => k = q) w3 _).cell (hm.out.cell k8 HZ.out.1) HZ.out.2
              have e9 := (Mod.cellOf q 5 (.slice ma2 (s1.more ++ [((n : Int), b)]).length mc2) : Mod (fun k => k = q) w3 _).cell (hm.out.cell k9 HZ.out.1) HZ.out.2
              have HAT := Lib.hid hat
              have HM3 := Lib.hid (HMX.out.trans ((hm.out.mono (S' := RF q bv (.slice (some ⟨g, 0, none⟩) m cap) (.slice ma s1.more.length mc)) (fun k _ hk => .inr (.inr (.inr hk)))).trans ((Mod.cellOf q 5 (.slice ma2 (s1.more ++ [((n : Int), b)]).length mc2)).mono (fun k _ hk => .inl hk))))
              clear kb5 kc5 kd5 hS0 hS1 hS2 k5 k8 k9 kf5 ho ho1 hgr hat hm HMX
              simp only [List.length_append, List.length_cons, List.length_nil, Nat.zero_add] at e8 e9 HR2 HM3 HAT
              generalize w3.setCell ⟨q, 5, none⟩ (.slice ma2 (s1.more.length + 1) mc2) = Z at *
              have HPUT := Lib.hid (rput_any n b HR2.out (by rw [HMM1.out]; have := HI2.out; omega) (by omega) (by have := cntF_le s1.now; omega))
              go_wp2_with (go_at_call 34; refine HPUT.out.mono ?_; rintro e w4 ⟨rfl, hP4, hM4⟩; have N4 := Lib.hid hP4; have M4 := Lib.hid hM4; clear hP4 hM4)
              go_ret
              refine ⟨rfl, (show RUpd base q bv (.slice (some ⟨g, 0, none⟩) m cap) (.slice ma s1.more.length mc) (putS s1 n b) w w4 from ?_)⟩
              refine ⟨_, RD.put HBG.out HI.out N4.out, HM3.out.then M4.out (fun k hk hs => ?_), fun gg hgg => (HAT.out gg hgg).imp id (fun c => by have := HSX.out; simp at c; omega)⟩
              rcases hs with c | c | c | c
              · exact .inl c
              · exact .inr (.inl c)
              · exact .inr (.inr (.inl c))
              · rcases HAT.out k c with d | d
                · exact .inr (.inr (.inr d))
                · have := HSX.out; simp at d; omega
      · rw [if_pos (by simp [hb])]
        have hb32 : ((b.size : Int) != 32) = true := by simp; omega
        clear h hg g1 g3 g4
        go_enter Try.func13, Try.ntmps13
        go_wp2
        go_ret
        exact ⟨rfl, RUpd.same hP.out (Below.refl _ _)⟩
    · rw [if_pos (by simp [hi])]
      clear h hg g1 g3 g4
      by_cases h0 : i < 0
      · clear hi
        go_enter Try.func13, Try.ntmps13
        go_wp2
        go_ret
        exact ⟨rfl, RUpd.same hP.out (Below.refl _ _)⟩
      · have h1 : s.len ≤ i := by omega
        have h2 : 0 ≤ i := by omega
        clear hi h0
        go_enter Try.func13, Try.ntmps13
        go_wp2
        go_ret
        exact ⟨rfl, RUpd.same hP.out (Below.refl _ _)⟩
end Go.Proofs.Ytcgkdomfbkkboaa
