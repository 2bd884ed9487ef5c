/- What is taken was sent. -/
import Derived.Test.YtmiaifbpepfbnaaWholeP
import Derived.Test.YtmiaifbpepfbnaaPlays
namespace Go.Proofs.Ytmiaifbpepfbnaa
open Go.RowKit Go.Joins Go.ChangeMaps

set_option maxHeartbeats 16000000 in
set_option maxRecDepth 100000 in
theorem lawWhole (a0 : Option Addr) (cap0 : Nat) (acts : List Ac) (W : World) (hin : Acts W a0 acts) (hle : acts.length ≤ maxLen) : Calls Try.prog 5 #[.slice a0 acts.length cap0] W (RetB true W) := by
  unfold maxLen at hle
  have hnew := Lib.hid (fun W' => n_new (w0 := W') 6 (by omega) (by omega))
  have HIn := Lib.hid hin
  clear hin
  generalize hla : acts.length = n0 at *
  have HN0 := Lib.hid hla
  clear hla
  go_enter Try.func5, Try.ntmps5
  go_wp2_with (go_at_call 8; refine (hnew.out _).mono ?_; rintro e w1 ⟨rfl, hN⟩; have N1 := Lib.hid hN; clear hN)
  go_loopg [4, 5, 6] 60 (fun gk v4 v5 v6 wr => ∃ i : Nat, i + gk = 60 ∧ i ≤ n0 ∧ v6 = .int .i64 (i : Int) ∧ ∃ t ss ts, WI W wr (W.heap.size + 1) W.heap.size v4 v5 t ss ts ∧ Bal ts ss t ∧ Ok t 6 i ∧ ss.length ≤ 31 * i ∧ ts.length ≤ i)
  case atStart => exact ⟨0, rfl, by omega, rfl, newS 6, [], [], ⟨N1.out.less (fun k hk => by simp [Value.ownBlock] at hk), ownL_nil _ _, ownL_nil _ _, by simp [Value.ownBlock]⟩, fun f => by simp [cnt, newS], ⟨good_new (by omega) (by omega), by simp [newS], by simp [newS], by simp [newS], rfl⟩, by simp, by simp⟩
  case round =>
    obtain ⟨i, hik, hin0, rfl, t, ss, ts, hI, hbal, hok, hss, hts⟩ := hrel
    have HI := Lib.hid hI
    have HBal := Lib.hid hbal
    have HOk := Lib.hid hok
    have HSS := Lib.hid hss
    have HTS := Lib.hid hts
    clear hI hbal hok hss hts N1 hnew
    by_cases hlt : i < n0
    · have hli : (i : Int) < (n0 : Int) := by omega
      by_cases h60 : i < 60
      · have h60i : (i : Int) < 60 := by omega
        obtain ⟨b, off, la, lc, hab, t0, t1, t2, t3, hL⟩ := HIn.out i (by have := HN0.out; omega)
        subst hab
        have g0 := keepc' t0 HI.out.ne.bel
        have g1 := keepc' t1 HI.out.ne.bel
        have g2 := keepc' t2 HI.out.ne.bel
        have g3 := keepc' t3 HI.out.ne.bel
        have hL2 := hL.below HI.out.ne.bel
        clear t0 t1 t2 t3 hL
        generalize acts.getD i default = act at *
        obtain ⟨what, xa, xb, l⟩ := act
        simp only at g0 g1 g2 g3 hL2
        have hXb := bel1 wr (.cells #[.int .i64 what, .int .i64 xa, .int .i64 xb, .slice la l.length lc] 43)
        have HIX := Lib.hid (HI.out.below hXb)
        have hLX := Lib.hid (hL2.below hXb)
        have hlf := Lib.hid (frs_len l)
        clear hL2 hXb HI hlt h60
        by_cases h0 : what = 0
        · have e0 : (what == 0) = true := by simp; omega
          clear h0
          have hok1 := Lib.hid (show Ok (sendS t (frs l)) 6 (i + 1) by have := ok_do HOk.out 0 xa xb l; simpa [doS] using this)
          have hbal := Lib.hid (HBal.out.send (frs l))
          have hfs := Lib.hid (frames_any la lc l _ (hLX.out))
          generalize frs l = fl at *
          clear hLX
          have T1 := trivial
          go_wp2_with (first
            | (have z := T1; go_at_call 15; refine hfs.out.mono ?_; rintro e w1 ⟨v, rfl, ho, hb⟩; obtain ⟨a', c', rfl, hs, hlt⟩ := ho.sli EF; have hS := Lib.hid hs; have hLT := Lib.hid hlt; have I1 := Lib.hid (HIX.out.below hb); have N1 := Lib.hid (HIX.out.ne.more hb); clear hs hlt ho hb z T1; have T2 := trivial)
            | (have z := T2; go_at_call 9; refine (n_send (n := fl.length) N1.out HOk.out.good hS.out rfl (by have := HOk.out.fr; have := hlf.out; omega) (fun b off e => .inr (hLT.out b off e))).mono ?_; rintro e w2 ⟨rfl, hs⟩; have I2 := Lib.hid (I1.out.step (fun k hk => .inl hk) hs); have hS2 := Lib.hid (hS.out.mod hs.2.2 (fun b off e c => c.1 (.inr (hLT.out b off e)))); clear hs N1 I1 hS z T2; have T3 := trivial)
            | (have z := T3; at_builtin; refine wpList_app (v := u4) (base := W.heap.size) EF TF rfl _ _ rfl rfl I2.out.o4 a' fl.length c' fl rfl rfl hS2.out.lst hS2.out.nil0 (by have := HSS.out; have := hlf.out; omega) (by have := HSS.out; have := hlf.out; unfold maxLen; omega) I2.out.ne.bel.size ?_; intro v' w' ho hgr hat; have I3 := Lib.hid (I2.out.app4 hgr ho hat); clear ho hgr hat z T3))
          go_roundg (gk - 1)
          case measure => omega
          case rel => exact ⟨i + 1, by omega, by omega, by simp, _, _, _, I3.out, hbal.out, hok1.out, by have := HSS.out; have := hlf.out; simp; omega, by have := HTS.out; simp; omega⟩
        by_cases h1 : what = 1
        · have e0 : (what == 0) = false := by simp; omega
          have e1 : (what == 1) = true := by simp; omega
          clear h1
          have hok1 := Lib.hid (show Ok (sendS t (frs l)) 6 (i + 1) by have := ok_do HOk.out 0 xa xb l; simpa [doS] using this)
          have hbal := Lib.hid (HBal.out.send (frs l))
          have hfs := Lib.hid (frames_any la lc l _ (hLX.out))
          generalize frs l = fl at *
          clear hLX
          have T1 := trivial
          go_wp2_with (first
            | (have z := T1; go_at_call 15; refine hfs.out.mono ?_; rintro e w1 ⟨v, rfl, ho, hb⟩; obtain ⟨a', c', rfl, hs, hlt⟩ := ho.sli EF; have hS := Lib.hid hs; have hLT := Lib.hid hlt; have I1 := Lib.hid (HIX.out.below hb); have N1 := Lib.hid (HIX.out.ne.more hb); clear hs hlt ho hb z T1; have T2 := trivial)
            | (have z := T2; go_at_call 9; refine (n_send (n := fl.length) N1.out HOk.out.good hS.out rfl (by have := HOk.out.fr; have := hlf.out; omega) (fun b off e => .inr (hLT.out b off e))).mono ?_; rintro e w2 ⟨rfl, hs⟩; have I2 := Lib.hid (I1.out.step (fun k hk => .inl hk) hs); have hS2 := Lib.hid (hS.out.mod hs.2.2 (fun b off e c => c.1 (.inr (hLT.out b off e)))); clear hs N1 I1 hS z T2; have T3 := trivial)
            | (have z := T3; at_builtin; refine wpList_app (v := u4) (base := W.heap.size) EF TF rfl _ _ rfl rfl I2.out.o4 a' fl.length c' fl rfl rfl hS2.out.lst hS2.out.nil0 (by have := HSS.out; have := hlf.out; omega) (by have := HSS.out; have := hlf.out; unfold maxLen; omega) I2.out.ne.bel.size ?_; intro v' w' ho hgr hat; have I3 := Lib.hid (I2.out.app4 hgr ho hat); clear ho hgr hat z T3))
          go_roundg (gk - 1)
          case measure => omega
          case rel => exact ⟨i + 1, by omega, by omega, by simp, _, _, _, I3.out, hbal.out, hok1.out, by have := HSS.out; have := hlf.out; simp; omega, by have := HTS.out; simp; omega⟩
        by_cases h2 : what = 2
        · have e0 : (what == 0) = false := by simp; omega
          have e1 : (what == 1) = false := by simp; omega
          have e2 : (what == 2) = true := by simp; omega
          clear h2
          have hok1 := Lib.hid (show Ok (takeS t xa).1 6 (i + 1) by have := ok_do HOk.out 2 xa xb l; simpa [doS] using this)
          have hbal := (HBal.out.take xa)
          have h1 := n_take (k := xa) HIX.out.ne HOk.out.good
          generalize takeS t xa = T at *
          obtain ⟨t1, ⟨f0, f1, f2⟩, tb⟩ := T
          simp only [tkV, frV] at h1
          have H1 := Lib.hid h1
          have HBal1 := Lib.hid hbal
          clear h1 hbal hLX
          cases tb
          · go_wp2_with (go_at_call 17; refine H1.out.mono ?_; rintro e w1 ⟨rfl, hs⟩; have I1 := Lib.hid ((HIX.out.step (fun k hk => hk) hs).below (bel1 w1 (.cells #[.int .i64 f0, .int .i64 f1, .string f2] 31))); clear hs)
            go_roundg (gk - 1)
            case measure => omega
            case rel => exact ⟨i + 1, by omega, by omega, by simp, _, _, _, I1.out, HBal1.out.2, hok1.out, by have := HSS.out; have := hlf.out; simp; omega, by have := HTS.out; simp; omega⟩
          · go_wp2_with (first
              | (go_at_call 17; refine H1.out.mono ?_; rintro e w1 ⟨rfl, hs⟩; have I1 := Lib.hid (((HIX.out.step (fun k hk => hk) hs).below (bel1 w1 (.cells #[.int .i64 f0, .int .i64 f1, .string f2] 31))).below (bel1 _ (.cells #[.int .i64 f0, .int .i64 f1, .string f2] 31))); clear hs)
              | (at_builtin; refine wpList_app (v := u5) (base := W.heap.size) EF TF rfl _ _ rfl rfl I1.out.o5 (some ⟨_, 0, none⟩) 1 1 [(f0, f1, f2)] rfl rfl (fr_own (f := (f0, f1, f2)) (sizeA _ _)) (fun e => by cases e) (by have := HTS.out; simp; omega) (by have := HTS.out; unfold maxLen; simp; omega) I1.out.ne.bel.size ?_; intro v' w' ho hgr hat; have I2 := Lib.hid (I1.out.app5 hgr ho hat); clear ho hgr hat))
            go_roundg (gk - 1)
            case measure => omega
            case rel => exact ⟨i + 1, by omega, by omega, by simp, _, _, _, I2.out, (HBal1.out.1 trivial), hok1.out, by have := HSS.out; have := hlf.out; simp; omega, by have := HTS.out; simp; omega⟩
        by_cases h3 : what = 3
        · have e0 : (what == 0) = false := by simp; omega
          have e1 : (what == 1) = false := by simp; omega
          have e2 : (what == 2) = false := by simp; omega
          have e3 : (what == 3) = true := by simp; omega
          clear h3
          have hok1 := Lib.hid (show Ok (takeS t xa).1 6 (i + 1) by have := ok_do HOk.out 2 xa xb l; simpa [doS] using this)
          have hbal := (HBal.out.take xa)
          have h1 := n_take (k := xa) HIX.out.ne HOk.out.good
          generalize takeS t xa = T at *
          obtain ⟨t1, ⟨f0, f1, f2⟩, tb⟩ := T
          simp only [tkV, frV] at h1
          have H1 := Lib.hid h1
          have HBal1 := Lib.hid hbal
          clear h1 hbal hLX
          cases tb
          · go_wp2_with (go_at_call 17; refine H1.out.mono ?_; rintro e w1 ⟨rfl, hs⟩; have I1 := Lib.hid ((HIX.out.step (fun k hk => hk) hs).below (bel1 w1 (.cells #[.int .i64 f0, .int .i64 f1, .string f2] 31))); clear hs)
            go_roundg (gk - 1)
            case measure => omega
            case rel => exact ⟨i + 1, by omega, by omega, by simp, _, _, _, I1.out, HBal1.out.2, hok1.out, by have := HSS.out; have := hlf.out; simp; omega, by have := HTS.out; simp; omega⟩
          · go_wp2_with (first
              | (go_at_call 17; refine H1.out.mono ?_; rintro e w1 ⟨rfl, hs⟩; have I1 := Lib.hid (((HIX.out.step (fun k hk => hk) hs).below (bel1 w1 (.cells #[.int .i64 f0, .int .i64 f1, .string f2] 31))).below (bel1 _ (.cells #[.int .i64 f0, .int .i64 f1, .string f2] 31))); clear hs)
              | (at_builtin; refine wpList_app (v := u5) (base := W.heap.size) EF TF rfl _ _ rfl rfl I1.out.o5 (some ⟨_, 0, none⟩) 1 1 [(f0, f1, f2)] rfl rfl (fr_own (f := (f0, f1, f2)) (sizeA _ _)) (fun e => by cases e) (by have := HTS.out; simp; omega) (by have := HTS.out; unfold maxLen; simp; omega) I1.out.ne.bel.size ?_; intro v' w' ho hgr hat; have I2 := Lib.hid (I1.out.app5 hgr ho hat); clear ho hgr hat))
            go_roundg (gk - 1)
            case measure => omega
            case rel => exact ⟨i + 1, by omega, by omega, by simp, _, _, _, I2.out, (HBal1.out.1 trivial), hok1.out, by have := HSS.out; have := hlf.out; simp; omega, by have := HTS.out; simp; omega⟩
        by_cases h4 : what = 4
        · have e0 : (what == 0) = false := by simp; omega
          have e1 : (what == 1) = false := by simp; omega
          have e2 : (what == 2) = false := by simp; omega
          have e3 : (what == 3) = false := by simp; omega
          have e4 : (what == 4) = true := by simp; omega
          clear h4
          have hok1 := Lib.hid (show Ok (dropS t xa).1 6 (i + 1) by have := ok_do HOk.out 4 xa xb l; simpa [doS] using this)
          have hbal := Lib.hid (HBal.out.drop xa)
          have H1 := Lib.hid (n_drop (k := xa) HIX.out.ne)
          generalize (dropS t xa).2 = tb at *
          generalize (dropS t xa).1 = t1 at *
          clear hLX
          go_wp2_with (go_at_call 18; refine H1.out.mono ?_; rintro e w1 ⟨rfl, hs⟩; have I1 := Lib.hid (HIX.out.step (fun k hk => hk) hs); clear hs)
          go_roundg (gk - 1)
          case measure => omega
          case rel => exact ⟨i + 1, by omega, by omega, by simp, _, _, _, I1.out, hbal.out, hok1.out, by have := HSS.out; have := hlf.out; simp; omega, by have := HTS.out; simp; omega⟩
        by_cases h5 : what = 5
        · have e0 : (what == 0) = false := by simp; omega
          have e1 : (what == 1) = false := by simp; omega
          have e2 : (what == 2) = false := by simp; omega
          have e3 : (what == 3) = false := by simp; omega
          have e4 : (what == 4) = false := by simp; omega
          have e5 : (what == 5) = true := by simp; omega
          clear h5
          have hok1 := Lib.hid (show Ok (twiceS t xa).1 6 (i + 1) by have := ok_do HOk.out 5 xa xb l; simpa [doS] using this)
          have h1 := Lib.hid (n_twice (k := xa) HIX.out.ne)
          have hno := Lib.hid (show (twiceS t xa).2 = false → (twiceS t xa).1 = t by unfold twiceS; split <;> simp)
          have htt := Lib.hid (twice_take (t := t) (k := xa))
          have hgt := Lib.hid (good_twice HOk.out.good xa)
          generalize (twiceS t xa).2 = tb at *
          generalize (twiceS t xa).1 = t1 at *
          clear hLX
          cases tb
          · have hnt := hno.out rfl
            clear htt hgt hno
            subst hnt
            go_wp2_with (go_at_call 11; refine h1.out.mono ?_; rintro e w1 ⟨rfl, hs⟩; have I1 := Lib.hid (HIX.out.step (fun k hk => hk) hs); clear hs)
            go_roundg (gk - 1)
            case measure => omega
            case rel => exact ⟨i + 1, by omega, by omega, by simp, _, _, _, I1.out, HBal.out, hok1.out, by have := HSS.out; have := hlf.out; simp; omega, by have := HTS.out; simp; omega⟩
          · have htt1 := htt.out rfl
            have h800 := hgt.out.len
            have h2 := fun (V : World) (F : Nat → Prop) (h : NE W V F (W.heap.size + 1) W.heap.size t1) => n_take (k := ((t1.fl.length : Int) - 1)) h hgt.out
            have hlenF := Lib.hid (fun (V : World) (F : Nat → Prop) (h : NE W V F (W.heap.size + 1) W.heap.size t1) => n_len h)
            rw [htt1] at h2
            generalize (takeS t1 ((t1.fl.length : Int) - 1)).2 = r at *
            obtain ⟨⟨f0, f1, f2⟩, tb2⟩ := r
            simp only [tkV, frV] at h2
            have H2 := Lib.hid h2
            have hn8 : (t1.fl.length : Int) < 801 := by omega
            generalize t1.fl.length = n1 at *
            have hokt := Lib.hid (show Ok t 6 (i + 1) by obtain ⟨k1, k2, k3, k4, k5⟩ := HOk.out; exact ⟨k1, by push_cast; omega, by omega, k4, k5⟩)
            have hok3 := Lib.hid (show Ok (sendS t [(f0, f1, f2)]) 6 (i + 1) by obtain ⟨k1, k2, k3, k4, k5⟩ := HOk.out; obtain ⟨j1, j2, j3, j4⟩ := good_send [(f0, f1, f2)] k1; exact ⟨j1, by simp at j2; push_cast; omega, by omega, by rw [send_cuts, j4]; exact k4, by rw [j3]; exact k5⟩)
            have hbal3 := Lib.hid (HBal.out.send [(f0, f1, f2)])
            clear h2 htt1 h800 htt hno hok1
            cases tb2
            · go_wp2_with (first
                | (go_at_call 11; refine h1.out.mono ?_; rintro e w1 ⟨rfl, hs⟩; have I1 := Lib.hid (HIX.out.step (fun k hk => hk) hs); clear hs)
                | (go_at_call 13; refine (hlenF.out _ _ I1.out.ne).mono ?_; rintro e w2 ⟨rfl, rfl⟩)
                | (go_at_call 17; refine (H2.out _ _ I1.out.ne).mono ?_; rintro e w3 ⟨rfl, hs⟩; have I2 := Lib.hid ((I1.out.step (fun k hk => hk) hs).below (bel1 w3 (.cells #[.int .i64 f0, .int .i64 f1, .string f2] 31))); clear hs))
              go_roundg (gk - 1)
              case measure => omega
              case rel => exact ⟨i + 1, by omega, by omega, by simp, _, _, _, I2.out, HBal.out, hokt.out, by have := HSS.out; have := hlf.out; simp; omega, by have := HTS.out; simp; omega⟩
            · have T1 := trivial
              go_wp2_with (first
                | (go_at_call 11; refine h1.out.mono ?_; rintro e w1 ⟨rfl, hs⟩; have I1 := Lib.hid (HIX.out.step (fun k hk => hk) hs); clear hs)
                | (go_at_call 13; refine (hlenF.out _ _ I1.out.ne).mono ?_; rintro e w2 ⟨rfl, rfl⟩)
                | (go_at_call 17; refine (H2.out _ _ I1.out.ne).mono ?_; rintro e w3 ⟨rfl, hs⟩; have J0 := Lib.hid (I1.out.step (fun k hk => hk) hs); have hbx := Lib.hid (heap_alloc_new w3 (.cells #[.int .i64 f0, .int .i64 f1, .string f2] 31)); have hBel := Lib.hid (grew_trans (bel1 w3 (.cells #[.int .i64 f0, .int .i64 f1, .string f2] 31)) (bel1 _ (.cells #[.int .i64 f0, .int .i64 f1, .string f2] 31))); have J1 := Lib.hid (J0.out.below hBel.out); have N2 := Lib.hid (J0.out.ne.more hBel.out); have hS2 := Lib.hid (sli_lit EF (w3.alloc (.cells #[.int .i64 f0, .int .i64 f1, .string f2] 31)) [(f0, f1, f2)] 1 (w3.heap.size + 1) 31 (sizeA _ _) rfl (by unfold maxLen; omega)); have hbx2 := Lib.hid (blk_below hbx.out (bel1 _ (.cells #[.int .i64 f0, .int .i64 f1, .string f2] 31))); have hw3 := Lib.hid (show (w3.heap.size : Nat) + 1 + 1 = ((w3.alloc (.cells #[.int .i64 f0, .int .i64 f1, .string f2] 31)).alloc (.cells #[.int .i64 f0, .int .i64 f1, .string f2] 31)).heap.size by simp); clear hs)
                | (have z := T1; go_at_call 9; refine (n_send (n := 1) N2.out HOk.out.good hS2.out rfl (by have := HOk.out.fr; omega) (fun b off e => by simp at e; have := hw3.out; right; omega)).mono ?_; rintro e w4 ⟨rfl, hs⟩; have I3 := Lib.hid ((J1.out.step (fun k hk => .inl hk) hs).below (bel1 w4 (.cells #[.int .i64 f0, .int .i64 f1, .string f2] 31))); have hb4 := hs.2.1 _ _ (by have := hw3.out; right; omega) hbx2.out; obtain ⟨y0, y1, y2⟩ := box3 hb4; have y3 := (cell_of hb4 0 (v := .int .i64 f0) rfl).1; have y4 := (cell_of hb4 1 (v := .int .i64 f1) rfl).1; have y5 := (cell_of hb4 2 (v := .string f2) rfl).1; clear hs hb4 z T1)
                | (at_builtin; refine wpList_app (v := u4) (base := W.heap.size) EF TF rfl _ _ rfl rfl I3.out.o4 (some ⟨_, 0, none⟩) 1 1 [(f0, f1, f2)] rfl rfl (fr_own (f := (f0, f1, f2)) rfl) (fun e => by cases e) (by have := HSS.out; simp; omega) (by have := HSS.out; unfold maxLen; simp; omega) I3.out.ne.bel.size ?_; intro v' w' ho hgr hat; have I4 := Lib.hid (I3.out.app4 hgr ho hat); clear ho hgr hat))
              go_roundg (gk - 1)
              case measure => omega
              case rel => exact ⟨i + 1, by omega, by omega, by simp, _, _, _, I4.out, hbal3.out, hok3.out, by have := HSS.out; have := hlf.out; simp; omega, by have := HTS.out; simp; omega⟩
        by_cases h6 : what = 6
        · have e0 : (what == 0) = false := by simp; omega
          have e1 : (what == 1) = false := by simp; omega
          have e2 : (what == 2) = false := by simp; omega
          have e3 : (what == 3) = false := by simp; omega
          have e4 : (what == 4) = false := by simp; omega
          have e5 : (what == 5) = false := by simp; omega
          have e6 : (what == 6) = true := by simp; omega
          clear h6
          have hok1 := Lib.hid (show Ok (cutS t xa xb).1 6 (i + 1) by have := ok_do HOk.out 6 xa xb l; simpa [doS] using this)
          have hbal := Lib.hid (HBal.out.cut xa xb)
          have H1 := Lib.hid (n_cut (a := xa) (b := xb) HIX.out.ne HOk.out.good (by have := HOk.out.cnt; omega))
          generalize (cutS t xa xb).2 = tb at *
          generalize (cutS t xa xb).1 = t1 at *
          clear hLX
          go_wp2_with (go_at_call 16; refine H1.out.mono ?_; rintro e w1 ⟨rfl, hs⟩; have I1 := Lib.hid (HIX.out.step (fun k hk => hk) hs); clear hs)
          go_roundg (gk - 1)
          case measure => omega
          case rel => exact ⟨i + 1, by omega, by omega, by simp, _, _, _, I1.out, hbal.out, hok1.out, by have := HSS.out; have := hlf.out; simp; omega, by have := HTS.out; simp; omega⟩
        by_cases h7 : what = 7
        · have e0 : (what == 0) = false := by simp; omega
          have e1 : (what == 1) = false := by simp; omega
          have e2 : (what == 2) = false := by simp; omega
          have e3 : (what == 3) = false := by simp; omega
          have e4 : (what == 4) = false := by simp; omega
          have e5 : (what == 5) = false := by simp; omega
          have e6 : (what == 6) = false := by simp; omega
          have e7 : (what == 7) = true := by simp; omega
          clear h7
          have hok1 := Lib.hid (show Ok (joinS t xa xb).1 6 (i + 1) by have := ok_do HOk.out 7 xa xb l; simpa [doS] using this)
          have hbal := Lib.hid (HBal.out.join xa xb)
          have H1 := Lib.hid (n_join (a := xa) (b := xb) HIX.out.ne HOk.out.good)
          generalize (joinS t xa xb).2 = tb at *
          generalize (joinS t xa xb).1 = t1 at *
          clear hLX
          go_wp2_with (go_at_call 19; refine H1.out.mono ?_; rintro e w1 ⟨rfl, hs⟩; have I1 := Lib.hid (HIX.out.step (fun k hk => hk) hs); clear hs)
          go_roundg (gk - 1)
          case measure => omega
          case rel => exact ⟨i + 1, by omega, by omega, by simp, _, _, _, I1.out, hbal.out, hok1.out, by have := HSS.out; have := hlf.out; simp; omega, by have := HTS.out; simp; omega⟩
        have e0 : (what == 0) = false := by simp; omega
        have e1 : (what == 1) = false := by simp; omega
        have e2 : (what == 2) = false := by simp; omega
        have e3 : (what == 3) = false := by simp; omega
        have e4 : (what == 4) = false := by simp; omega
        have e5 : (what == 5) = false := by simp; omega
        have e6 : (what == 6) = false := by simp; omega
        have e7 : (what == 7) = false := by simp; omega
        have hokt := Lib.hid (show Ok t 6 (i + 1) by obtain ⟨k1, k2, k3, k4, k5⟩ := HOk.out; exact ⟨k1, by push_cast; omega, by omega, k4, k5⟩)
        clear hLX
        go_wp2
        go_roundg (gk - 1)
        case measure => omega
        case rel => exact ⟨i + 1, by omega, by omega, by simp, _, _, _, HIX.out, HBal.out, hokt.out, by have := HSS.out; have := hlf.out; simp; omega, by have := HTS.out; simp; omega⟩
      · have h60i : (60 : Int) ≤ (i : Int) := by omega
        clear h60 HIn
        have hn60 : i ≤ 60 := by omega
        have hg800 := HOk.out.good.len
        have HGT := Lib.hid HOk.out.good
        have HTB := Lib.hid (show ts.length + t.fl.length ≤ 860 by have := HTS.out; omega)
        have HSB := Lib.hid (show ss.length ≤ 1860 by have := HSS.out; omega)
        clear HOk HTS HSS hg800
        go_wp2
        try simp only [show decide ((i : Int) < (n0 : Int)) = false from by simp; omega]
        try simp only [show decide (i < n0) = false from by simp; omega]
        go_loopg [5, 14, 15] (t.fl.length) (fun gk v5 v14 v15 wr => ∃ t ts, WI W wr (W.heap.size + 1) W.heap.size u4 v5 t ss ts ∧ Bal ts ss t ∧ Good t ∧ t.fl.length = gk ∧ ts.length + gk ≤ 860)
        case atStart => exact ⟨t, ts, HI.out, HBal.out, HGT.out, rfl, HTB.out⟩
        case round =>
          obtain ⟨t, ts, hI, hbal, hgt, hlt, htl⟩ := hrel
          have H2 := Lib.hid hI
          have HB2 := Lib.hid hbal
          have HG := Lib.hid hgt
          have HTL := Lib.hid htl
          have hln := Lib.hid (n_len hI.ne)
          rw [hlt] at hln
          clear hI hbal hgt htl HI HBal HGT HTB
          cases hfs : t.fl with
          | nil =>
            rw [hfs] at hlt
            simp at hlt
            subst hlt
            have hC := Lib.hid (show ∀ f, cnt ts f ≤ cnt ss f from fun f => by have := HB2.out f; omega)
            obtain ⟨a4, c4, rfl, hs4, -⟩ := H2.out.o4.sli EF
            obtain ⟨a5, c5, rfl, hs5, -⟩ := H2.out.o5.sli EF
            have HS4 := Lib.hid hs4
            have HS5 := Lib.hid hs5
            clear hs4 hs5
            go_wp2_with (first
              | (go_at_call 13; refine hln.out.mono ?_; rintro e w6 ⟨rfl, rfl⟩)
              | (go_at_call 20; refine (counted_any a5 a4 c5 c4 ts.length ss.length ts ss rfl rfl _ HS5.out.lst HS4.out.lst (by have := HTL.out; omega) (by have := HSB.out; omega) hC.out).mono ?_; rintro e w7 ⟨rfl, hb⟩; have HB7 := Lib.hid hb; clear hb)
              | (go_at_call 14; refine (works_any _).mono ?_; rintro e w8 ⟨rfl, hb⟩))
            go_ret
            exact retB rfl (grew_trans H2.out.ne.bel (grew_trans HB7.out hb))
          | cons f fs =>
            have hgk : (0 : Int) < (gk : Int) := by rw [hfs] at hlt; simp at hlt; omega
            have hth := take_head hfs
            have HGK := Lib.hid (show (takeS t 0).1.fl.length = gk - 1 by rw [hth]; rw [hfs] at hlt; simp at hlt ⊢; omega)
            have HG1 := Lib.hid (good_take HG.out 0)
            have hbal := (HB2.out.take 0)
            have h1 := n_take (k := 0) H2.out.ne HG.out
            clear hth hfs hlt
            generalize takeS t 0 = T at *
            obtain ⟨t1, ⟨f0, f1, f2⟩, tb⟩ := T
            simp only [tkV, frV] at h1
            have H1 := Lib.hid h1
            have HBal1 := Lib.hid hbal
            clear h1 hbal HB2
            cases tb
            · go_wp2_with (first
                | (go_at_call 13; refine hln.out.mono ?_; rintro e w6 ⟨rfl, rfl⟩)
                | (go_at_call 17; refine H1.out.mono ?_; rintro e w7 ⟨rfl, hs⟩; have I1 := Lib.hid ((H2.out.step (fun k hk => hk) hs).below (bel1 w7 (.cells #[.int .i64 f0, .int .i64 f1, .string f2] 31))); clear hs))
              go_roundg (gk - 1)
              case measure => omega
              case rel => exact ⟨_, _, I1.out, HBal1.out.2, HG1.out, HGK.out, by have := HTL.out; omega⟩
            · go_wp2_with (first
                | (go_at_call 13; refine hln.out.mono ?_; rintro e w6 ⟨rfl, rfl⟩)
                | (go_at_call 17; refine H1.out.mono ?_; rintro e w7 ⟨rfl, hs⟩; have I1 := Lib.hid (((H2.out.step (fun k hk => hk) hs).below (bel1 w7 (.cells #[.int .i64 f0, .int .i64 f1, .string f2] 31))).below (bel1 _ (.cells #[.int .i64 f0, .int .i64 f1, .string f2] 31))); clear hs)
                | (at_builtin; refine wpList_app (v := u5) (base := W.heap.size) EF TF rfl _ _ rfl rfl I1.out.o5 (some ⟨_, 0, none⟩) 1 1 [(f0, f1, f2)] rfl rfl (fr_own (f := (f0, f1, f2)) (sizeA _ _)) (fun e => by cases e) (by have := HTL.out; simp; omega) (by have := HTL.out; unfold maxLen; simp; omega) I1.out.ne.bel.size ?_; intro v' w' ho hgr hat; have I2 := Lib.hid (I1.out.app5 hgr ho hat); clear ho hgr hat))
              go_roundg (gk - 1)
              case measure => omega
              case rel => exact ⟨_, _, I2.out, HBal1.out.1 trivial, HG1.out, HGK.out, by have := HTL.out; simp; omega⟩
    · have hge : (n0 : Int) ≤ (i : Int) := by omega
      clear hlt HIn
      have hn60 : i ≤ 60 := by omega
      have hg800 := HOk.out.good.len
      have HGT := Lib.hid HOk.out.good
      have HTB := Lib.hid (show ts.length + t.fl.length ≤ 860 by have := HTS.out; omega)
      have HSB := Lib.hid (show ss.length ≤ 1860 by have := HSS.out; omega)
      clear HOk HTS HSS hg800
      go_wp2
      try simp only [show decide ((i : Int) < (n0 : Int)) = false from by simp; omega]
      try simp only [show decide (i < n0) = false from by simp; omega]
      go_loopg [5, 14, 15] (t.fl.length) (fun gk v5 v14 v15 wr => ∃ t ts, WI W wr (W.heap.size + 1) W.heap.size u4 v5 t ss ts ∧ Bal ts ss t ∧ Good t ∧ t.fl.length = gk ∧ ts.length + gk ≤ 860)
      case atStart => exact ⟨t, ts, HI.out, HBal.out, HGT.out, rfl, HTB.out⟩
      case round =>
        obtain ⟨t, ts, hI, hbal, hgt, hlt, htl⟩ := hrel
        have H2 := Lib.hid hI
        have HB2 := Lib.hid hbal
        have HG := Lib.hid hgt
        have HTL := Lib.hid htl
        have hln := Lib.hid (n_len hI.ne)
        rw [hlt] at hln
        clear hI hbal hgt htl HI HBal HGT HTB
        cases hfs : t.fl with
        | nil =>
          rw [hfs] at hlt
          simp at hlt
          subst hlt
          have hC := Lib.hid (show ∀ f, cnt ts f ≤ cnt ss f from fun f => by have := HB2.out f; omega)
          obtain ⟨a4, c4, rfl, hs4, -⟩ := H2.out.o4.sli EF
          obtain ⟨a5, c5, rfl, hs5, -⟩ := H2.out.o5.sli EF
          have HS4 := Lib.hid hs4
          have HS5 := Lib.hid hs5
          clear hs4 hs5
          go_wp2_with (first
            | (go_at_call 13; refine hln.out.mono ?_; rintro e w6 ⟨rfl, rfl⟩)
            | (go_at_call 20; refine (counted_any a5 a4 c5 c4 ts.length ss.length ts ss rfl rfl _ HS5.out.lst HS4.out.lst (by have := HTL.out; omega) (by have := HSB.out; omega) hC.out).mono ?_; rintro e w7 ⟨rfl, hb⟩; have HB7 := Lib.hid hb; clear hb)
            | (go_at_call 14; refine (works_any _).mono ?_; rintro e w8 ⟨rfl, hb⟩))
          go_ret
          exact retB rfl (grew_trans H2.out.ne.bel (grew_trans HB7.out hb))
        | cons f fs =>
          have hgk : (0 : Int) < (gk : Int) := by rw [hfs] at hlt; simp at hlt; omega
          have hth := take_head hfs
          have HGK := Lib.hid (show (takeS t 0).1.fl.length = gk - 1 by rw [hth]; rw [hfs] at hlt; simp at hlt ⊢; omega)
          have HG1 := Lib.hid (good_take HG.out 0)
          have hbal := (HB2.out.take 0)
          have h1 := n_take (k := 0) H2.out.ne HG.out
          clear hth hfs hlt
          generalize takeS t 0 = T at *
          obtain ⟨t1, ⟨f0, f1, f2⟩, tb⟩ := T
          simp only [tkV, frV] at h1
          have H1 := Lib.hid h1
          have HBal1 := Lib.hid hbal
          clear h1 hbal HB2
          cases tb
          · go_wp2_with (first
              | (go_at_call 13; refine hln.out.mono ?_; rintro e w6 ⟨rfl, rfl⟩)
              | (go_at_call 17; refine H1.out.mono ?_; rintro e w7 ⟨rfl, hs⟩; have I1 := Lib.hid ((H2.out.step (fun k hk => hk) hs).below (bel1 w7 (.cells #[.int .i64 f0, .int .i64 f1, .string f2] 31))); clear hs))
            go_roundg (gk - 1)
            case measure => omega
            case rel => exact ⟨_, _, I1.out, HBal1.out.2, HG1.out, HGK.out, by have := HTL.out; omega⟩
          · go_wp2_with (first
              | (go_at_call 13; refine hln.out.mono ?_; rintro e w6 ⟨rfl, rfl⟩)
              | (go_at_call 17; refine H1.out.mono ?_; rintro e w7 ⟨rfl, hs⟩; have I1 := Lib.hid (((H2.out.step (fun k hk => hk) hs).below (bel1 w7 (.cells #[.int .i64 f0, .int .i64 f1, .string f2] 31))).below (bel1 _ (.cells #[.int .i64 f0, .int .i64 f1, .string f2] 31))); clear hs)
              | (at_builtin; refine wpList_app (v := u5) (base := W.heap.size) EF TF rfl _ _ rfl rfl I1.out.o5 (some ⟨_, 0, none⟩) 1 1 [(f0, f1, f2)] rfl rfl (fr_own (f := (f0, f1, f2)) (sizeA _ _)) (fun e => by cases e) (by have := HTL.out; simp; omega) (by have := HTL.out; unfold maxLen; simp; omega) I1.out.ne.bel.size ?_; intro v' w' ho hgr hat; have I2 := Lib.hid (I1.out.app5 hgr ho hat); clear ho hgr hat))
            go_roundg (gk - 1)
            case measure => omega
            case rel => exact ⟨_, _, I2.out, HBal1.out.1 trivial, HG1.out, HGK.out, by have := HTL.out; simp; omega⟩
end Go.Proofs.Ytmiaifbpepfbnaa
