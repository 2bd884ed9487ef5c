/- Frames are sent. -/
import Derived.Test.YtmiaifbpepfbnaaNew
namespace Go.Proofs.Ytmiaifbpepfbnaa
open Go.RowKit Go.Joins Go.ChangeMaps

theorem loop_len (b : ByteArray) : ∀ (k i : Nat) (r : List UInt8), b.size - i = k → (ByteArray.toList.loop b i r).length = r.length + (b.size - i)
  | 0, i, r, h => by
    unfold ByteArray.toList.loop
    rw [if_neg (by omega)]
    simp; omega
  | k + 1, i, r, h => by
    unfold ByteArray.toList.loop
    rw [if_pos (by omega), loop_len b k (i + 1) _ (by omega)]
    simp; omega
theorem toList_len (b : ByteArray) : b.toList.length = b.size := by
  unfold ByteArray.toList
  rw [loop_len b b.size 0 [] (by omega)]; simp
theorem toList_nil (b : ByteArray) : b.toList = [] ↔ b.size = 0 := by
  rw [← toList_len b]; exact List.length_eq_zero_iff.symm
theorem PUpd.step {base p bm : Nat} {v v1 v2 : Value} {s : St} {w wr X w' Z : World} (h : Mod (PF p bm v) w wr) (hv1 : ∀ g, v1.ownBlock = some g → v.ownBlock = some g ∨ w.heap.size ≤ g) (hb : Below wr.heap.size wr X) (hm : Mod (fun k => v1.ownBlock = some k) X w')
    (hv2 : ∀ g, v2.ownBlock = some g → v1.ownBlock = some g ∨ X.heap.size ≤ g) (hz : Mod (fun k => k = p) w' Z) (hP : PN Z base p bm v2 s) : PUpd base p bm v s w Z := by
  refine ⟨v2, hP, ((h.trans ((Mod.belowAll hb).mono (fun _ _ c => c.elim))).then hm (fun i hi hs => ?_)).trans (hz.mono fun j _ hj => .inl hj), fun g hg => ?_⟩
  · rcases hv1 i hs with c | c
    · exact .inr (.inr c)
    · omega
  · rcases hv2 g hg with c | c
    · exact hv1 g c
    · exact .inr (Nat.le_trans (Nat.le_trans h.size hb.size) c)
theorem sendS_snoc (s : St) (l : List Fr) (i : Nat) (h : i < l.length) : sendS s (l.take (i + 1)) = send1 (sendS s (l.take i)) (l.getD i default) := by
  rw [take_snoc l i default h, sendS, List.foldl_append]; rfl
set_option maxHeartbeats 4000000 in
set_option maxRecDepth 100000 in
theorem send_any (base p bm c : Nat) (v : Value) (s : St) (a : Option Addr) (l : List Fr) (w : World) (h : PN w base p bm v s) (hg : Good s) (hl : Sli encF 3 w a c l) (hbase : base ≤ w.heap.size) (hbd : s.fr + l.length ≤ 1000000000) (hap : ∀ b off, a = some ⟨b, off, none⟩ → ¬ PF p bm v b) :
    Calls Try.prog 9 #[.pointer (some ⟨p, 0, none⟩), .slice a l.length c] w (Tup0 (PUpd base p bm v (sendS s l) w)) := by
  have hP := Lib.hid h
  have hL := Lib.hid hl
  have hG := Lib.hid hg
  have hBd := Lib.hid hbd
  have hcm := hl.capm
  have hln := hl.len
  unfold maxLen at hcm
  have hAp := Lib.hid hap
  clear h hl hg hbd hap
  generalize hn : l.length = n at *
  have hN := Lib.hid hn
  clear hn
  go_enter Try.func9, Try.ntmps9
  go_wp2
  go_loopg [5, 8] n (fun gk v5 v8 wr => ∃ i : Nat, i + gk = n ∧ v8 = .int .i64 (i : Int) ∧ PUpd base p bm v (sendS s (l.take i)) w wr)
  case atStart => exact ⟨0, by omega, rfl, PUpd.same hP.out (Below.refl _ _)⟩
  case round =>
    obtain ⟨i, hik, rfl, hU⟩ := hrel
    have HU := Lib.hid hU
    clear hU
    by_cases hlt : i < n
    · obtain ⟨v1, hP1, hM1, hv1⟩ := HU.out
      obtain ⟨hg1, hf1, hn1, -⟩ := good_send (l.take i) hG.out
      have hsn := sendS_snoc s l i (by have := hN.out; omega)
      obtain ⟨b, off, hab, hc⟩ := hL.out.lst i (by have := hN.out; omega)
      have hc1 := hc.mod hM1 (hAp.out b off hab)
      obtain ⟨g0', g1', g2'⟩ := fr_cells hc1
      have g0 := g0'
      have g1 := g1'
      have g2 := g2'
      rw [List.length_take, Nat.min_eq_left (by have := hN.out; omega)] at hf1
      generalize l.getD i default = f at *
      obtain ⟨f0, f1, f2⟩ := f
      generalize sendS s (l.take i) = s1 at *
      subst hab
      have hXB := Lib.hid (bel1 wr (.cells #[.int .i64 f0, .int .i64 f1, .string f2] 31))
      obtain ⟨a1, cap1, rfl, -, -⟩ := hP1.own.sli EF
      have hPX := Lib.hid (hP1.below hXB.out)
      have htwo := Lib.hid (two_any p f0 f1 s1.nodes _ hPX.out.c.1.1)
      have SN := Lib.hid hsn
      have HF := Lib.hid hf1
      have HG1 := Lib.hid hg1
      have HM1 := Lib.hid hM1
      have HV1 := Lib.hid hv1
      have c1 := fun o => keepc' hP1.c.1.2.1 (bel1 wr o)
      have hlt1 := Lib.hid (fun k c => (hP1.lt k c).2)
      clear hc hc1 hP1 hM1 hv1 hg1 hf1 hn1 hsn g0' g1' g2'
      have hli : (i : Int) < (n : Int) := by omega
      by_cases h1 : twoB s1.nodes f0 f1 = true
      · rw [h1] at htwo
        by_cases h2 : f2.size = 0
        · have h2' : f2.toList = [] := (toList_nil f2).2 h2
          have hS := Lib.hid (show send1 s1 (f0, f1, f2) = s1 by simp [send1, okF, h2])
          go_wp2_with (go_at_call 26; refine htwo.out.mono ?_; rintro e w2 ⟨rfl, rfl⟩)
          go_roundg (gk - 1)
          case measure => omega
          case rel => exact ⟨i + 1, by omega, by simp, by rw [SN.out, hS.out]; exact HU.out.then hXB.out⟩
        · have h2' : ¬ f2.toList = [] := fun c => h2 ((toList_nil f2).1 c)
          by_cases h3 : (8192 : Int) < (f2.size : Int)
          · have h3' : ¬ f2.size ≤ 8192 := by omega
            have hS := Lib.hid (show send1 s1 (f0, f1, f2) = s1 by simp [send1, okF, h3'])
            clear h3' h2
            go_wp2_with (go_at_call 26; refine htwo.out.mono ?_; rintro e w2 ⟨rfl, rfl⟩)
            go_roundg (gk - 1)
            case measure => omega
            case rel => exact ⟨i + 1, by omega, by simp, by rw [SN.out, hS.out]; exact HU.out.then hXB.out⟩
          · have h3' : (f2.size : Int) ≤ 8192 := by omega
            by_cases h4 : (s1.fl.length : Int) < 400
            · have hS := Lib.hid (show send1 s1 (f0, f1, f2) = { s1 with fl := s1.fl ++ [(f0, f1, f2)], fr := s1.fr + 1, bt := s1.bt + f2.size } by simp [send1, okF, h1, show 0 < f2.size by omega, show f2.size ≤ 8192 by omega, show s1.fl.length < 400 by omega])
              have H4 := Lib.hid (show s1.fl.length < 400 by omega)
              have H3 := Lib.hid h3'
              have h2b : f2.toList.isEmpty = false := by simpa using h2'
              clear h2 h3 h2'
              have mixed : Try.prog.follows .mixedOrders = true := by kernel_rfl
              go_wp2_with (go_at_call 26; refine htwo.out.mono ?_; rintro e w2 ⟨rfl, rfl⟩)
              have e0 := cellN wr #[.int .i64 f0, .int .i64 f1, .string f2] 31 _ 0 _ rfl rfl
              have e1 := cellN wr #[.int .i64 f0, .int .i64 f1, .string f2] 31 _ 1 _ rfl rfl
              have e2 := cellN wr #[.int .i64 f0, .int .i64 f1, .string f2] 31 _ 2 _ rfl rfl
              have hBox := Lib.hid (heap_alloc_new wr (.cells #[.int .i64 f0, .int .i64 f1, .string f2] 31))
              have hNB : Hid (∀ k, PF p bm (.slice a1 s1.fl.length cap1) k → k ≠ wr.heap.size) := fun k c e => absurd (hlt1.out k c) (by omega)
              have hbX : base ≤ (wr.alloc (.cells #[.int .i64 f0, .int .i64 f1, .string f2] 31)).heap.size := Nat.le_trans hbase (Nat.le_trans HM1.out.size hXB.out.size)
              clear c1 g0 g1 g2 h2b h3' h4
              generalize wr.alloc (.cells #[.int .i64 f0, .int .i64 f1, .string f2] 31) = X at *
              have c1 := hPX.out.c.1.2.1
              have c1' := fun o => keepc' c1 (bel1 X o)
              have hB3 := Lib.hid ((Below.refl _ X).drew.alloc (Nat.le_refl _) (.cells #[.int .i64 f0, .int .i64 f1, .string f2] 31))
              have hP3 := Lib.hid (hPX.out.below hB3.out)
              go_region_law_o (refine step_app EF TF rfl (.tmp 42) (.tmp 44) rfl (by simp [Act.eval]) hP3.out.own (some ⟨_, 0, none⟩) 1 1 [(f0, f1, f2)] rfl (by simp [Act.eval]) (fr_own (f := (f0, f1, f2)) rfl) (by simp) (by have := H4.out; simp; omega) (by have := H4.out; unfold maxLen; simp; omega) (by simp; omega) ?_; intro v' w' ho hgr hat; obtain ⟨a', c', rfl, -, -⟩ := ho.sli EF; have hm := Lib.hid (Mod.grown (S := fun k => (Value.slice a1 s1.fl.length cap1).ownBlock = some k) hgr (fun _ hk => hk)); have d1 := (cell_of (hm.out.heap hP3.out.blk hP3.out.not_own.1) 1 rfl).1; have d2 := (cell_of (hm.out.heap hP3.out.blk hP3.out.not_own.1) 1 rfl).2)
              all_goals (
                have hPZ : Hid (PN (w'.setCell ⟨p, 1, none⟩ (.slice a' (s1.fl.length + 1) c')) base p bm (.slice a' (s1.fl.length + 1) c') { s1 with fl := s1.fl ++ [(f0, f1, f2)] }) := hP3.out.put1 hm.out hP3.out.not_own.1 hP3.out.not_own.2.1 (by simpa using ho) ⟨rfl, rfl, rfl, rfl, rfl⟩
                have hat' := Lib.hid (show ∀ g, (Value.slice a' (s1.fl.length + 1) c').ownBlock = some g → (Value.slice a1 s1.fl.length cap1).ownBlock = some g ∨ (X.drew.alloc (.cells #[.int .i64 f0, .int .i64 f1, .string f2] 31)).heap.size ≤ g by simpa using hat)
                have hzp : Hid (Mod (fun k => k = p) w' (w'.setCell ⟨p, 1, none⟩ (.slice a' (s1.fl.length + 1) c'))) := mod_setCell p 1 _ _
                have hBZ := Lib.hid (hzp.out.heap (hm.out.heap (blk_below hBox.out hB3.out) (fun e => hNB.out _ (.inr (.inr e)) rfl)) (fun e => hNB.out p (.inl rfl) e.symm))
                have hfr := HG1.out.frs
                have hS1 := HF.out
                have hS2 := hBd.out
                have hS3 := H3.out
                clear d1 d2 hat ho hgr
                generalize w'.setCell ⟨p, 1, none⟩ (.slice a' (s1.fl.length + 1) c') = Z at *
                have hA3 := Lib.hid (add_any p 3 s1.fr 1 Z hPZ.out.c.1.2.2.2.1 (hPZ.out.c.2 3 (by omega)) hfr.1 (by omega) (by omega))
                have hPZ2 := Lib.hid ((hPZ.out.put3 (s1.fr + 1)).below ((Below.refl _ _).drew))
                have hA4 := Lib.hid (add_any p 4 s1.bt f2.size _ hPZ2.out.c.1.2.2.2.2 (hPZ2.out.c.2 4 (by omega)) hfr.2.1 (by omega) (by omega))
                have hPF := Lib.hid (hPZ2.out.put4 (s1.bt + f2.size))
                have hz3 := Lib.hid (mod_setCell p 3 Z (.int .i64 (s1.fr + 1)))
                have b2 := (cell_of (hz3.out.heap hBZ.out (fun e => hNB.out p (.inl rfl) e.symm)) 2 (v := .string f2) rfl).1
                clear hfr hS1 hS2 hS3
                go_wp2_with (go_at_call 27; refine hA3.out.mono ?_; rintro e z2 ⟨rfl, rfl⟩)
                go_region_with (go_at_call 27; refine hA4.out.mono ?_; rintro e z3 ⟨rfl, rfl⟩)
                go_wp2
                go_roundg (gk - 1)
                case measure => omega
                case rel => exact ⟨i + 1, by omega, by simp, by rw [SN.out, hS.out]; exact PUpd.step HM1.out HV1.out (grew_trans hXB.out hB3.out) hm.out hat'.out (hzp.out.trans (hz3.out.trans ((show Mod (fun k => k = p) (Z.setCell ⟨p, 3, none⟩ (.int .i64 (s1.fr + 1))) (Z.setCell ⟨p, 3, none⟩ (.int .i64 (s1.fr + 1))).drew from ⟨rfl, rfl, rfl, Nat.le_refl _, fun _ _ _ => rfl⟩).trans (mod_setCell p 4 _ _)))) hPF.out⟩)
            · have h4' : (400 : Int) ≤ (s1.fl.length : Int) := by omega
              have hS := Lib.hid (show send1 s1 (f0, f1, f2) = s1 by simp [send1, okF, show ¬ s1.fl.length < 400 by omega])
              clear h2 h3 h4
              go_wp2_with (go_at_call 26; refine htwo.out.mono ?_; rintro e w2 ⟨rfl, rfl⟩)
              go_roundg (gk - 1)
              case measure => omega
              case rel => exact ⟨i + 1, by omega, by simp, by rw [SN.out, hS.out]; exact HU.out.then hXB.out⟩
      · have h1' : twoB s1.nodes f0 f1 = false := by simpa using h1
        rw [h1'] at htwo
        have hS := Lib.hid (show send1 s1 (f0, f1, f2) = s1 by simp [send1, okF, h1'])
        go_wp2_with (go_at_call 26; refine htwo.out.mono ?_; rintro e w2 ⟨rfl, rfl⟩)
        go_roundg (gk - 1)
        case measure => omega
        case rel => exact ⟨i + 1, by omega, by simp, by rw [SN.out, hS.out]; exact HU.out.then hXB.out⟩
    · obtain rfl : i = n := by omega
      go_wp2
      go_end0
      have := HU.out
      rw [List.take_of_length_le (by have := hN.out; omega)] at this
      exact ⟨rfl, this⟩
end Go.Proofs.Ytmiaifbpepfbnaa
