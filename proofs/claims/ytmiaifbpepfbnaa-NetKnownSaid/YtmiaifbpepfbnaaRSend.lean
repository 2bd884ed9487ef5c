/- Frames are sent: the reference. -/
import Derived.Test.YtmiaifbpepfbnaaSend
namespace Go.Proofs.Ytmiaifbpepfbnaa
open Go.RowKit Go.Joins Go.ChangeMaps

theorem RUpd.from {base q : Nat} {v c : Value} {s : St} {w w2 w' : World} (hb : Below w.heap.size w w2) (h : RUpd base q v c s w2 w') : RUpd base q v c s w w' := by
  obtain ⟨v', c', h1, h2, h3, h4⟩ := h
  exact ⟨v', c', h1, ((Mod.belowAll hb).mono (fun _ _ c => c.elim)).trans h2, fun g hg => (h3 g hg).imp id (fun c => Nat.le_trans hb.size c), fun g hg => (h4 g hg).imp id (fun c => Nat.le_trans hb.size c)⟩
theorem RUpd.same {base q : Nat} {v c : Value} {s : St} {w w' : World} (h : RN w base q v c s) (hb : Below w.heap.size w w') : RUpd base q v c s w w' :=
  ⟨v, c, h.below hb, (Mod.belowAll hb).mono (fun _ _ c => c.elim), fun _ hg => .inl hg, fun _ hg => .inl hg⟩
theorem RUpd.then {base q : Nat} {v c : Value} {s : St} {w w2 w' : World} (h : RUpd base q v c s w w2) (hb : Below w2.heap.size w2 w') : RUpd base q v c s w w' := by
  obtain ⟨v', c', h1, h2, h3, h4⟩ := h
  exact ⟨v', c', h1.below hb, h2.trans ((Mod.belowAll hb).mono (fun _ _ c => c.elim)), h3, h4⟩
theorem RUpd.step {base q : Nat} {v v1 v2 c c1 : Value} {s : St} {w wr X w' Z : World} (h : Mod (RF q v c) w wr) (hv1 : ∀ g, v1.ownBlock = some g → v.ownBlock = some g ∨ w.heap.size ≤ g) (hc1 : ∀ g, c1.ownBlock = some g → c.ownBlock = some g ∨ w.heap.size ≤ g) (hb : Below wr.heap.size wr X) (hm : Mod (fun k => v1.ownBlock = some k) X w')
    (hv2 : ∀ g, v2.ownBlock = some g → v1.ownBlock = some g ∨ X.heap.size ≤ g) (hz : Mod (fun k => k = q) w' Z) (hP : RN Z base q v2 c1 s) : RUpd base q v c s w Z := by
  refine ⟨v2, c1, hP, ((h.trans ((Mod.belowAll hb).mono (fun _ _ c => c.elim))).then hm (fun i hi hs => ?_)).trans (hz.mono fun j _ hj => .inl hj), fun g hg => ?_, hc1⟩
  · rcases hv1 i hs with c | c
    · exact .inr (.inl c)
    · omega
  · rcases hv2 g hg with c | c
    · exact hv1 g c
    · exact .inr (Nat.le_trans (Nat.le_trans h.size hb.size) c)
/-- of the lists that a reference keeps, each is apart from the other. -/
theorem RN.own_c {w : World} {base q : Nat} {v c : Value} {s : St} (h : RN w base q v c s) : ∀ g, c.ownBlock = some g → ¬ (v.ownBlock = some g) := fun g hg e => h.not_own.2.2 g e hg
theorem twoB_node {n a b : Int} : twoB n a b = ((decide (0 ≤ a) && decide (a < n)) && (decide (0 ≤ b) && decide (b < n)) && decide (a ≠ b)) := by
  rw [Bool.eq_iff_iff, twoB_spec]; simp; omega
set_option maxHeartbeats 4000000 in
set_option maxRecDepth 100000 in
theorem rsend_any (base q c : Nat) (v rc : Value) (s : St) (a : Option Addr) (l : List Fr) (w : World) (h : RN w base q v rc s) (hg : Good s) (hl : Sli encF 3 w a c l) (hbase : base ≤ w.heap.size) (hbd : s.fr + l.length ≤ 1000000000) (hap : ∀ b off, a = some ⟨b, off, none⟩ → ¬ RF q v rc b) :
    Calls Try.prog 10 #[.pointer (some ⟨q, 0, none⟩), .slice a l.length c] w (Tup0 (RUpd base q v rc (sendS s l) w)) := by
  have hP := Lib.hid h
  have hL := Lib.hid hl
  have hG := Lib.hid hg
  have hBd := Lib.hid hbd
  have hcm := hl.capm
  have hln := hl.len
  unfold maxLen at hcm
  have hAp := Lib.hid hap
  clear h hl hg hbd hap
  generalize hn : l.length = n at *
  have hN := Lib.hid hn
  clear hn
  go_enter Try.func10, Try.ntmps10
  go_wp2
  go_loopg [4, 5] n (fun gk v4 v5 wr => ∃ i : Nat, i + gk = n ∧ v4 = .int .i64 (i : Int) ∧ RUpd base q v rc (sendS s (l.take i)) w wr)
  case atStart => exact ⟨0, by omega, rfl, RUpd.same hP.out (Below.refl _ _)⟩
  case round =>
    obtain ⟨i, hik, rfl, hU⟩ := hrel
    have HU := Lib.hid hU
    clear hU
    by_cases hlt : i < n
    · obtain ⟨v1, rc1, hP1, hM1, hv1, hcv1⟩ := HU.out
      obtain ⟨hg1, hf1, hn1, -⟩ := good_send (l.take i) hG.out
      have hsn := sendS_snoc s l i (by have := hN.out; omega)
      obtain ⟨b, off, hab, hc⟩ := hL.out.lst i (by have := hN.out; omega)
      have hc1 := hc.mod hM1 (hAp.out b off hab)
      obtain ⟨g0', g1', g2'⟩ := fr_cells hc1
      have g0 := g0'
      have g1 := g1'
      have g2 := g2'
      rw [List.length_take, Nat.min_eq_left (by have := hN.out; omega)] at hf1
      generalize l.getD i default = f at *
      obtain ⟨f0, f1, f2⟩ := f
      generalize sendS s (l.take i) = s1 at *
      subst hab
      have hXB := Lib.hid (bel1 wr (.cells #[.int .i64 f0, .int .i64 f1, .string f2] 31))
      obtain ⟨a1, cap1, rfl, -, -⟩ := hP1.own.sli EF
      have HC1 := Lib.hid hcv1
      have hPX := Lib.hid (hP1.below hXB.out)
      have hnode := fun (z : Int) => Lib.hid (node_any q z s1.nodes _ hPX.out.c.1.1)
      have hna := hnode f0
      have hnb := hnode f1
      clear hnode
      have SN := Lib.hid hsn
      have HF := Lib.hid hf1
      have HG1 := Lib.hid hg1
      have HM1 := Lib.hid hM1
      have HV1 := Lib.hid hv1
      have c1 := fun o => keepc' hP1.c.1.2.1 (bel1 wr o)
      have hlt1 := Lib.hid (fun k c => (hP1.lt k c).2)
      clear hc hc1 hP1 hM1 hv1 hcv1 hg1 hf1 hn1 hsn g0' g1' g2'
      have hli : (i : Int) < (n : Int) := by omega
      have N1 := trivial
      by_cases hA : (decide (0 ≤ f0) && decide (f0 < s1.nodes)) = true
      · rw [hA] at hna
        by_cases hB : (decide (0 ≤ f1) && decide (f1 < s1.nodes)) = true
        · rw [hB] at hnb
          by_cases hE : f0 = f1
          · have hEb : (f0 == f1) = true := by simpa using hE
            have h1 : twoB s1.nodes f0 f1 = false := by rw [twoB_node]; simp [hE]
            clear hE hA hB
            have hS := Lib.hid (show send1 s1 (f0, f1, f2) = s1 by simp [send1, okF, h1])
            go_wp2_with (first | (have q := N1; go_at_call 28; refine hna.out.mono ?_; rintro e w2 ⟨rfl, rfl⟩; clear N1 q; have N2 := trivial) | (have q := N2; go_at_call 28; refine hnb.out.mono ?_; rintro e w2 ⟨rfl, rfl⟩; clear N2 q))
            go_roundg (gk - 1)
            case measure => omega
            case rel => exact ⟨i + 1, by omega, by simp, by rw [SN.out, hS.out]; exact HU.out.then hXB.out⟩
          · have hEb : (f0 == f1) = false := by simpa using hE
            have h1 : twoB s1.nodes f0 f1 = true := by rw [twoB_node, hA, hB]; simp [hE]
            clear hE hA hB
            by_cases h2 : (f2.size : Int) < 1
            · have h2s : ¬ 0 < f2.size := by omega
              have hS := Lib.hid (show send1 s1 (f0, f1, f2) = s1 by simp [send1, okF, h2s])
              go_wp2_with (first | (have q := N1; go_at_call 28; refine hna.out.mono ?_; rintro e w2 ⟨rfl, rfl⟩; clear N1 q; have N2 := trivial) | (have q := N2; go_at_call 28; refine hnb.out.mono ?_; rintro e w2 ⟨rfl, rfl⟩; clear N2 q))
              go_roundg (gk - 1)
              case measure => omega
              case rel => exact ⟨i + 1, by omega, by simp, by rw [SN.out, hS.out]; exact HU.out.then hXB.out⟩
            · have h2' : (1 : Int) ≤ (f2.size : Int) := by omega
              by_cases h3 : (8192 : Int) < (f2.size : Int)
              · have h3s : ¬ f2.size ≤ 8192 := by omega
                clear h2
                have hS := Lib.hid (show send1 s1 (f0, f1, f2) = s1 by simp [send1, okF, h3s])
                go_wp2_with (first | (have q := N1; go_at_call 28; refine hna.out.mono ?_; rintro e w2 ⟨rfl, rfl⟩; clear N1 q; have N2 := trivial) | (have q := N2; go_at_call 28; refine hnb.out.mono ?_; rintro e w2 ⟨rfl, rfl⟩; clear N2 q))
                go_roundg (gk - 1)
                case measure => omega
                case rel => exact ⟨i + 1, by omega, by simp, by rw [SN.out, hS.out]; exact HU.out.then hXB.out⟩
              · have h3' : (f2.size : Int) ≤ 8192 := by omega
                by_cases h4 : (s1.fl.length : Int) < 400
                · have hS := Lib.hid (show send1 s1 (f0, f1, f2) = { s1 with fl := s1.fl ++ [(f0, f1, f2)], fr := s1.fr + 1, bt := s1.bt + f2.size } by simp [send1, okF, h1, show 0 < f2.size by omega, show f2.size ≤ 8192 by omega, show s1.fl.length < 400 by omega])
                  have H4 := Lib.hid (show s1.fl.length < 400 by omega)
                  have H3 := Lib.hid h3'
                  clear h2 h3
                  have mixed : Try.prog.follows .mixedOrders = true := by kernel_rfl
                  go_wp2_with (first | (have q := N1; go_at_call 28; refine hna.out.mono ?_; rintro e w2 ⟨rfl, rfl⟩; clear N1 q; have N2 := trivial) | (have q := N2; go_at_call 28; refine hnb.out.mono ?_; rintro e w2 ⟨rfl, rfl⟩; clear N2 q))
                  have e0 := cellN wr #[.int .i64 f0, .int .i64 f1, .string f2] 31 _ 0 _ rfl rfl
                  have e1 := cellN wr #[.int .i64 f0, .int .i64 f1, .string f2] 31 _ 1 _ rfl rfl
                  have e2 := cellN wr #[.int .i64 f0, .int .i64 f1, .string f2] 31 _ 2 _ rfl rfl
                  have hBox := Lib.hid (heap_alloc_new wr (.cells #[.int .i64 f0, .int .i64 f1, .string f2] 31))
                  have hNB : Hid (∀ k, RF q (.slice a1 s1.fl.length cap1) rc1 k → k ≠ wr.heap.size) := fun k c e => absurd (hlt1.out k c) (by omega)
                  have hbX : base ≤ (wr.alloc (.cells #[.int .i64 f0, .int .i64 f1, .string f2] 31)).heap.size := Nat.le_trans hbase (Nat.le_trans HM1.out.size hXB.out.size)
                  clear c1 g0 g1 g2 h2' h3' h4
                  generalize wr.alloc (.cells #[.int .i64 f0, .int .i64 f1, .string f2] 31) = X at *
                  have c1 := hPX.out.c.1.2.1
                  have c1' := fun o => keepc' c1 (bel1 X o)
                  have hB3 := Lib.hid ((Below.refl _ X).drew.alloc (Nat.le_refl _) (.cells #[.int .i64 f0, .int .i64 f1, .string f2] 31))
                  have hP3 := Lib.hid (hPX.out.below hB3.out)
                  go_region_law_o (refine step_app EF TF rfl (.tmp 59) (.tmp 61) rfl (by simp [Act.eval]) hP3.out.own (some ⟨_, 0, none⟩) 1 1 [(f0, f1, f2)] rfl (by simp [Act.eval]) (fr_own (f := (f0, f1, f2)) rfl) (by simp) (by have := H4.out; simp; omega) (by have := H4.out; unfold maxLen; simp; omega) (by simp; omega) ?_; intro v' w' ho hgr hat; obtain ⟨a', c', rfl, -, -⟩ := ho.sli EF; have hm := Lib.hid (Mod.grown (S := fun k => (Value.slice a1 s1.fl.length cap1).ownBlock = some k) hgr (fun _ hk => hk)); have d1 := (cell_of (hm.out.heap hP3.out.blk hP3.out.not_own.1) 1 rfl).1; have d2 := (cell_of (hm.out.heap hP3.out.blk hP3.out.not_own.1) 1 rfl).2)
                  all_goals (
                    have hPZ : Hid (RN (w'.setCell ⟨q, 1, none⟩ (.slice a' (s1.fl.length + 1) c')) base q (.slice a' (s1.fl.length + 1) c') rc1 { s1 with fl := s1.fl ++ [(f0, f1, f2)] }) := hP3.out.put1 hm.out hP3.out.not_own.1 (fun g hg => hP3.out.own_c g hg) (by simpa using ho) ⟨rfl, rfl, rfl, rfl⟩
                    have hat' := Lib.hid (show ∀ g, (Value.slice a' (s1.fl.length + 1) c').ownBlock = some g → (Value.slice a1 s1.fl.length cap1).ownBlock = some g ∨ (X.drew.alloc (.cells #[.int .i64 f0, .int .i64 f1, .string f2] 31)).heap.size ≤ g by simpa using hat)
                    have hzp : Hid (Mod (fun k => k = q) w' (w'.setCell ⟨q, 1, none⟩ (.slice a' (s1.fl.length + 1) c'))) := mod_setCell q 1 _ _
                    have hBZ := Lib.hid (hzp.out.heap (hm.out.heap (blk_below hBox.out hB3.out) (fun e => hNB.out _ (.inr (.inl e)) rfl)) (fun e => hNB.out q (.inl rfl) e.symm))
                    have hfr := HG1.out.frs
                    have hS1 := HF.out
                    have hS2 := hBd.out
                    have hS3 := H3.out
                    clear d1 d2 hat ho hgr
                    generalize w'.setCell ⟨q, 1, none⟩ (.slice a' (s1.fl.length + 1) c') = Z at *
                    have z3 := hPZ.out.c.1.2.2.2.1
                    have y3 := hPZ.out.c.2 3 (by omega)
                    have b1 : s1.fr + 1 < 9223372036854775808 := by omega
                    have b2 : -9223372036854775808 ≤ s1.fr + 1 := by omega
                    have b3 : s1.bt + (f2.size : Int) < 9223372036854775808 := by omega
                    have b4 : -9223372036854775808 ≤ s1.bt + (f2.size : Int) := by omega
                    clear hfr hS1 hS2 hS3
                    go_wp2_with fail
                    have hPZ2 := Lib.hid (hPZ.out.put3 (s1.fr + 1))
                    have hz3 := Lib.hid (mod_setCell q 3 Z (.int .i64 (s1.fr + 1)))
                    have hBZ2 := Lib.hid (hz3.out.heap hBZ.out (fun e => hNB.out q (.inl rfl) e.symm))
                    clear z3 y3
                    generalize Z.setCell ⟨q, 3, none⟩ (.int .i64 (s1.fr + 1)) = Z3 at *
                    have z4 := hPZ2.out.c.1.2.2.2.2
                    have y4 := hPZ2.out.c.2 4 (by omega)
                    have b5 := (cell_of hBZ2.out 2 (v := .string f2) rfl).1
                    go_region
                    all_goals (
                      go_wp2
                      go_roundg (gk - 1)
                      case measure => omega
                      case rel => exact ⟨i + 1, by omega, by simp, by rw [SN.out, hS.out]; exact RUpd.step HM1.out HV1.out HC1.out (grew_trans hXB.out hB3.out) hm.out hat'.out (hzp.out.trans (hz3.out.trans ((show Mod (fun k => k = q) Z3 Z3.drew from ⟨rfl, rfl, rfl, Nat.le_refl _, fun _ _ _ => rfl⟩).trans (mod_setCell q 4 _ _)))) ((hPZ2.out.below ((Below.refl _ Z3).drew)).put4 (s1.bt + f2.size))⟩))
                · have h4' : (400 : Int) ≤ (s1.fl.length : Int) := by omega
                  have h4s : ¬ s1.fl.length < 400 := by omega
                  clear h2 h3 h4
                  have hS := Lib.hid (show send1 s1 (f0, f1, f2) = s1 by simp [send1, okF, h4s])
                  go_wp2_with (first | (have q := N1; go_at_call 28; refine hna.out.mono ?_; rintro e w2 ⟨rfl, rfl⟩; clear N1 q; have N2 := trivial) | (have q := N2; go_at_call 28; refine hnb.out.mono ?_; rintro e w2 ⟨rfl, rfl⟩; clear N2 q))
                  go_roundg (gk - 1)
                  case measure => omega
                  case rel => exact ⟨i + 1, by omega, by simp, by rw [SN.out, hS.out]; exact HU.out.then hXB.out⟩
        · have hB' : (decide (0 ≤ f1) && decide (f1 < s1.nodes)) = false := by simpa using hB
          have h1 : twoB s1.nodes f0 f1 = false := by rw [twoB_node, hB']; simp
          rw [hB'] at hnb
          clear hA hB hB'
          have hS := Lib.hid (show send1 s1 (f0, f1, f2) = s1 by simp [send1, okF, h1])
          go_wp2_with (first | (have q := N1; go_at_call 28; refine hna.out.mono ?_; rintro e w2 ⟨rfl, rfl⟩; clear N1 q; have N2 := trivial) | (have q := N2; go_at_call 28; refine hnb.out.mono ?_; rintro e w2 ⟨rfl, rfl⟩; clear N2 q))
          go_roundg (gk - 1)
          case measure => omega
          case rel => exact ⟨i + 1, by omega, by simp, by rw [SN.out, hS.out]; exact HU.out.then hXB.out⟩
      · have hA' : (decide (0 ≤ f0) && decide (f0 < s1.nodes)) = false := by simpa using hA
        have h1 : twoB s1.nodes f0 f1 = false := by rw [twoB_node, hA']; simp
        rw [hA'] at hna
        clear hA hA'
        have hS := Lib.hid (show send1 s1 (f0, f1, f2) = s1 by simp [send1, okF, h1])
        go_wp2_with (first | (have q := N1; go_at_call 28; refine hna.out.mono ?_; rintro e w2 ⟨rfl, rfl⟩; clear N1 q; have N2 := trivial) | (have q := N2; go_at_call 28; refine hnb.out.mono ?_; rintro e w2 ⟨rfl, rfl⟩; clear N2 q))
        go_roundg (gk - 1)
        case measure => omega
        case rel => exact ⟨i + 1, by omega, by simp, by rw [SN.out, hS.out]; exact HU.out.then hXB.out⟩
    · obtain rfl : i = n := by omega
      go_wp2
      go_end0
      have := HU.out
      rw [List.take_of_length_le (by have := hN.out; omega)] at this
      exact ⟨rfl, this⟩
end Go.Proofs.Ytmiaifbpepfbnaa
