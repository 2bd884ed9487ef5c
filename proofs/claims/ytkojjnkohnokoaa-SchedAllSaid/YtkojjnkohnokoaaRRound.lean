/- Round of the reference. -/
import Derived.Test.YtkojjnkohnokoaaRound
namespace Go.Proofs.Ytkojjnkohnokoaa
open Go.RowKit Go.Joins

set_option maxHeartbeats 4000000 in
set_option maxRecDepth 100000 in
theorem rround_any (base p : Nat) (vs : Nat → Value) (s : St) (w : World) (h : Sch w base p 31 vs s) (hg : Good s) :
    Calls Try.prog 10 #[.pointer (some ⟨p, 0, none⟩)] w (RoundP base p 31 vs s w) := by
  have hS : ∀ k, Foot p vs k → ¬ (w.heap.size ≤ k) := fun k hk => by have := (h.lt k hk).2; omega
  have hst0 := Lib.hid (show Stand (fun k => w.heap.size ≤ k) base p 31 vs w s w from ⟨vs, h, Mod.refl _ _, fun _ hk => hk⟩)
  have mixed : Try.prog.follows .mixedOrders = true := by kernel_rfl
  clear h
  go_enter Try.func10, Try.ntmps10
  go_wp2
  go_loopg [3, 4, 5] 6 (fun gk v3 v4 v5 wr => ∃ k : Nat, k + gk = 6 ∧ v4 = .int .i64 (k : Int) ∧ OwnL encF 3 46 wr w.heap.size v3 (roundTo k s).2 ∧ Stand (fun k => w.heap.size ≤ k) base p 31 vs w (roundTo k s).1 wr)
  case atStart => exact ⟨0, by omega, rfl, ownL_nil _ _, hst0.out⟩
  case round =>
    obtain ⟨k, hkg, rfl, hown, hSt⟩ := hrel
    have HS := Lib.hid hSt
    have HO := Lib.hid hown
    obtain ⟨va, vc, rfl, -⟩ := hown.sli EF
    clear hSt hown
    by_cases hlt : k < 6
    · have hlk : (k : Int) < 6 := by omega
      obtain ⟨a, cap, hc, hd, hf⟩ := HS.out.cell hlt
      have hq1 : (roundTo k s).1.q k = s.q k := by rw [roundTo_q, if_neg (by omega)]
      have hc1 : (roundTo k s).1.c k = s.c k := by rw [roundTo_c, if_neg (by omega)]
      rw [hq1] at hc
      rw [hc1] at hd
      by_cases hq : s.q k = []
      · rw [hq] at hc
        have hnext := Lib.hid (show roundTo (k + 1) s = roundTo k s by
          have e : lround (s.q k) (s.c k) = ([], s.q k, s.c k) := by rw [lround, if_pos hq, hq]
          rw [show roundTo (k + 1) s = (⟨upd (roundTo k s).1.q k (lround (s.q k) (s.c k)).2.1, upd (roundTo k s).1.c k (lround (s.q k) (s.c k)).2.2⟩, (roundTo k s).2 ++ (lround (s.q k) (s.c k)).1.map fun b => (k, b)) from rfl, e]
          simp only [List.map_nil, List.append_nil]
          rw [← hq1, ← hc1, upd_id, upd_id])
        clear hq hq1 hc1
        simp only [List.length_nil] at hc
        go_wp2
        go_roundg (gk - 1)
        case measure => omega
        case rel => exact ⟨k + 1, by omega, by simp, by rw [hnext.out]; exact HO.out, by rw [hnext.out]; exact HS.out⟩
      · have hne : ((s.q k).length : Int) ≠ 0 := by
          have := List.length_pos_iff.2 hq
          omega
        have hneb : (((s.q k).length : Int) == 0) = false := beq_eq_false_iff_ne.2 hne
        have hcc := hg k hlt
        have hcl := hcc.2.1
        have hcu := hcc.2.2
        have hqg := Lib.hid hcc.1
        have hlr := Lib.hid (show lround (s.q k) (s.c k) = ((drain (s.q k) (s.c k + 80)).1, (drain (s.q k) (s.c k + 80)).2.1, if (drain (s.q k) (s.c k + 80)).2.1 = [] then 0 else (drain (s.q k) (s.c k + 80)).2.2) by rw [lround, if_neg hq])
        have hroom := Lib.hid (show (roundTo k s).2.length + 4 ≤ 24 by have := roundTo_len hg (k := k) (by omega); omega)
        have HS1 := Lib.hid (HS.out.credit hlt (s.c k + 80))
        have HO1 := Lib.hid (HO.out.mod (Mod.cellOf p (k * 2 + 1) (.int .i64 (s.c k + 80))) (fun g hg e => by have := (World.ownsRow.lt HO.out g hg).1; have := hS p (.inl rfl); omega))
        have hnx := Lib.hid (roundTo_next k s)
        have HQ1 := Lib.hid hq1
        clear hq hne hcc hq1 hc1 HS HO
        obtain ⟨s1, hs1⟩ : ∃ s1, s1 = (roundTo k s).1 := ⟨_, rfl⟩
        obtain ⟨f1, hf1⟩ : ∃ f1, f1 = (roundTo k s).2 := ⟨_, rfl⟩
        rw [← hs1] at HS1 HQ1 hnx
        rw [← hf1] at HO1 hroom hnx ⊢
        clear hs1 hf1
        go_wp2
        clear hc hd hf hneb
        generalize wr.setCell ⟨p, k * 2 + 1, none⟩ (.int .i64 (s.c k + 80)) = W1 at *
        obtain ⟨D, hD⟩ : ∃ D, D = drain (s.q k) (s.c k + 80) := ⟨_, rfl⟩
        rw [← hD] at hlr
        have hp0 := Lib.hid (show ([] : List BA) ++ (drain (s.q k) (s.c k + 80)).1 = D.1 ∧ (drain (s.q k) (s.c k + 80)).2 = D.2 by rw [← hD]; exact ⟨rfl, rfl⟩)
        have hDl := Lib.hid (show D.1.length ≤ 4 by have := drain_app (s.q k) (s.c k + 80); rw [← hD] at this; have h2 := congrArg List.length this; rw [List.length_append] at h2; have := hqg.out.1; omega)
        clear hD
        go_loopg [3] (s.q k).length (fun gj v3 wr2 => ∃ (q2 : List BA) (c2 : Int) (pre : List BA), q2.length = gj ∧ OwnL encF 3 46 wr2 w.heap.size v3 (f1 ++ pre.map fun b => (k, b)) ∧ Stand (fun k => w.heap.size ≤ k) base p 31 vs w ⟨upd s1.q k q2, upd s1.c k c2⟩ wr2 ∧ pre ++ (drain q2 c2).1 = D.1 ∧ (drain q2 c2).2 = D.2 ∧ 0 ≤ c2 ∧ c2 ≤ 8272 ∧ q2.length ≤ 4)
        case atStart =>
          exact ⟨s.q k, s.c k + 80, [], rfl, by simpa using HO1.out, by rw [← HQ1.out, upd_id]; exact HS1.out, hp0.out.1, hp0.out.2, by omega, by omega, hqg.out.1⟩
        case round =>
          obtain ⟨q2, c2, pre, hgj, hO2, hS2, hd1, hd2, hc0, hc9, hq4⟩ := hrel
          have HS2 := Lib.hid hS2
          have HO2 := Lib.hid hO2
          have HD1 := Lib.hid hd1
          have HD2 := Lib.hid hd2
          have HGJ := Lib.hid hgj
          obtain ⟨va2, vc2, rfl, -⟩ := hO2.sli EF
          have hN2 := Lib.hid (show (f1 ++ pre.map fun b => (k, b)).length ≤ 24 by
            have h1 := congrArg List.length hd1
            rw [List.length_append] at h1
            have := hroom.out
            have := hDl.out
            simp only [List.length_append, List.length_map]
            omega)
          clear hO2 hd1 hd2 hgj
          obtain ⟨a2, cap2, hcl2, hcr2, hfz2⟩ := hS2.cell hlt
          simp only [upd_same] at hcl2 hcr2
          rcases q2 with _ | ⟨x, r⟩
          · simp only [List.length_nil] at hcl2
            clear hS2
            go_wp2
            go_quiet (fail)
            go_wp2
            go_roundg (6 - k - 1)
            case measure => omega
            case rel =>
              have e1 : D.2 = ([], c2) := HD2.out.symm
              have e2 : D.1 = pre := by rw [← HD1.out]; simp [drain]
              refine ⟨k + 1, by omega, by simp, ?_, ?_⟩
              · rw [hnx.out.2, hlr.out, e2]
                exact (HO2.out.mod (Mod.drewN (S := fun _ => False) _ nq) (fun _ _ c => c)).mod (Mod.cellOf p (k * 2 + 1) (.int .i64 0)) (fun g hg e => by have := (World.ownsRow.lt HO2.out g hg).1; have := hS p (.inl rfl); omega)
              · rw [hnx.out.1, hlr.out, e1]
                have h := ((HS2.out.mod hS (Mod.drewN _ nq)).credit hlt 0)
                simp only [upd_upd] at h
                exact h
          · obtain ⟨g, off, cap3, hh1, hh2, hh3, hh4⟩ := hS2.head hlt (upd_same _ _ _)
            by_cases hle : (x.size : Int) ≤ c2
            · have e1 : drain (x :: r) c2 = (x :: (drain r (c2 - x.size)).1, (drain r (c2 - x.size)).2) := by rw [drain, if_pos hle]
              have hx0 : (0 : Int) ≤ (x.size : Int) := by omega
              clear hS2 hh4 hcl2
              go_wp2
              go_quiet (fail)
              have HS3 := Lib.hid (HS2.out.mod hS (Mod.drewN _ nq))
              have HO3 := Lib.hid (HO2.out.mod (Mod.drewN (S := fun _ => False) wr nq) (fun _ _ c => c))
              clear hh1 hh2 hh3 hcr2 hfz2
              generalize wr.drewN nq = W2 at *
              have HS4 := Lib.hid (HS3.out.mod hS (Mod.of_below (bel1 W2 (.cells #[.int .i64 0, .int .i64 (k : Int), .string x] 46)) (Nat.le_refl _) _))
              have HO4 := Lib.hid (HO3.out.below (bel1 W2 (.cells #[.int .i64 0, .int .i64 (k : Int), .string x] 46)))
              have HL := Lib.hid (sli_lit EF W2 [(k, x)] 1 _ 46 rfl rfl (by decide)).lst
              obtain ⟨g, off, cap3, hh1, hh2, hh3, hh4⟩ := HS3.out.head hlt (upd_same _ _ _)
              clear hh4
              have hwz := Lib.hid (show w.heap.size ≤ W2.heap.size by obtain ⟨_, _, hm, _⟩ := HS3.out; exact hm.size)
              go_wp2_with (at_builtin; refine wpList_app (v := .slice va2 (f1 ++ pre.map fun b => (k, b)).length vc2) (base := w.heap.size) EF TF rfl _ _ rfl rfl HO4.out (some ⟨_, 0, none⟩) 1 1 [(k, x)] rfl rfl HL.out (by simp) (by have := hN2.out; simp only [List.length_singleton]; omega) (by have := hN2.out; unfold maxLen; simp only [List.length_singleton]; omega) (by have := hwz.out; simp; omega) ?_; intro v' w1 ho hgr hat; obtain ⟨a', c', rfl, -, -⟩ := ho.sli EF)
              have ho' : OwnL encF 3 46 w1 w.heap.size (.slice a' (f1.length + (pre.length + 1)) c') (f1 ++ (pre ++ [x]).map fun b => (k, b)) := by simpa using ho
              have HO5 := Lib.hid ho'
              have HS5 := Lib.hid (HS4.out.mod hS (Mod.grown hgr (fun g hg => (World.ownsRow.lt HO4.out g hg).1)))
              clear ho ho' hgr hat hh1 hh2 hh3
              obtain ⟨a6, cap6, -, hcr2, hfz2⟩ := HS5.out.cell hlt
              simp only [upd_same] at hcr2
              obtain ⟨g, off, cap3, hh1, hh2, hh3, hh4⟩ := HS5.out.head hlt (upd_same _ _ _)
              clear hh4
              go_still_tail 15, (by kernel_rfl)
              change wpList _ _ _ _ _ w1.drew
              have HS6 := Lib.hid ((HS5.out.mod hS (Mod.of_below (Below.refl _ w1).drew (Nat.le_refl _) _)).credit hlt (c2 - x.size))
              have HO6 := Lib.hid (HO5.out.below (Below.refl _ w1).drew)
              have hcr3 : w1.drew.cell? ⟨p, k * 2 + 1, none⟩ = some (.int .i64 c2) := hcr2
              have hfz3 : ∀ o, w1.drew.frozen? ⟨p, o, none⟩ = false := hfz2
              clear hcr2 hfz2 hh1 hh2 hh3
              generalize w1.drew = W3 at *
              obtain ⟨g, off, cap3, hh1, hh2, hh3, hh4⟩ := HS6.out.head hlt (upd_same _ _ _)
              simp only [upd_upd] at hh4
              have HS7 := Lib.hid hh4
              have HO7 := Lib.hid (HO6.out.mod (Mod.cellOf p (k * 2 + 1) (.int .i64 (c2 - x.size))) (fun g hg e => by have := (World.ownsRow.lt HO6.out g hg).1; have := hS p (.inl rfl); omega))
              clear hh4
              go_wp2
              all_goals (
                go_roundg (gk - 1)
                case measure => have := HGJ.out; simp at this; omega
                case rel =>
                  refine ⟨r, c2 - x.size, pre ++ [x], by have := HGJ.out; simp at this; omega, ?_, ?_, ?_, ?_, by omega, by omega, by simp at hq4; omega⟩
                  · exact HO7.out.mod (Mod.cellOf p (k * 2) _) (fun g hg e => by have := (World.ownsRow.lt HO7.out g hg).1; have := hS p (.inl rfl); omega)
                  · have h9 := HS7.out
                    first
                    | (rw [if_pos h] at h9; rw [h] at h9; exact h9)
                    | (rw [if_neg h] at h9; exact h9)
                  · rw [← HD1.out, e1]; simp
                  · rw [← HD2.out, e1])
            · have hgt : c2 < (x.size : Int) := by omega
              clear hS2 hh4 hcl2 hle
              go_wp2
              go_quiet (fail)
              go_wp2
              go_roundg (6 - k - 1)
              case measure => omega
              case rel =>
                have e1 : D.2 = (x :: r, c2) := by rw [← HD2.out, drain, if_neg (by omega)]
                have e2 : D.1 = pre := by rw [← HD1.out, drain, if_neg (by omega)]; simp
                refine ⟨k + 1, by omega, by simp, ?_, ?_⟩
                · rw [hnx.out.2, hlr.out, e2]
                  exact HO2.out.mod (Mod.drewN (S := fun _ => False) _ nq) (fun _ _ c => c)
                · rw [hnx.out.1, hlr.out, e1]
                  simp only [List.cons_ne_nil, if_false]
                  exact HS2.out.mod hS (Mod.drewN _ nq)
    · obtain rfl : k = 6 := by omega
      go_wp2
      go_ret
      obtain ⟨vs', h1, h2, h3⟩ := HS.out
      exact ⟨_, rfl, HO.out, vs', h1, h2.mono (fun i hi hk => by
        rcases hk with hk | hk
        · exact .inl hk
        · omega), h3⟩
end Go.Proofs.Ytkojjnkohnokoaa
