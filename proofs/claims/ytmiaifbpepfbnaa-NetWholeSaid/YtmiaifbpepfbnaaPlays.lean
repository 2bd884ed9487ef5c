/- Whatever is done to a net. -/
import Derived.Test.YtmiaifbpepfbnaaDo3
namespace Go.Proofs.Ytmiaifbpepfbnaa
open Go.RowKit Go.Joins Go.ChangeMaps

variable {w0 w : World} {p bm q : Nat} {s : St}
theorem do_any (what xa xb : Int) (la : Option Addr) (n lc : Nat) (l : List Fr) (h : BE w0 w (fun _ => False) p bm q s s) {nn : Int} {k : Nat} (hok : Ok s nn k) (hk : k ≤ 1000) (hl : Lst encF 3 w la l) (hn : l.length = n) :
    Calls Try.prog 21 #[.pointer (some ⟨p, 0, none⟩), .pointer (some ⟨q, 0, none⟩), .agg #[.int .i64 what, .int .i64 xa, .int .i64 xb, .slice la n lc]] w (DoPost w0 p bm q (doS s what xa xb l)) := by
  obtain ⟨hg, hf, hc, hcl, -⟩ := hok
  by_cases h0 : what = 0
  · rw [show doS s what xa xb l = sendS s (frs l) by simp [doS, h0]]
    exact do_send0 what xa xb la n lc h0 h hg (by omega) l hl hn
  by_cases h1 : what = 1
  · rw [show doS s what xa xb l = sendS s (frs l) by simp [doS, h1]]
    exact do_send1 what xa xb la n lc h1 h hg (by omega) l hl hn
  by_cases h2 : what = 2
  · rw [show doS s what xa xb l = (takeS s xa).1 by simp [doS, h2]]
    exact do_take2 what xa xb la n lc h2 h hg
  by_cases h3 : what = 3
  · rw [show doS s what xa xb l = (takeS s xa).1 by simp [doS, h3]]
    exact do_take3 what xa xb la n lc h3 h hg
  by_cases h4 : what = 4
  · rw [show doS s what xa xb l = (dropS s xa).1 by simp [doS, h4]]
    exact do_drop what xa xb la n lc h4 h hg (by omega) (by omega)
  by_cases h5 : what = 5
  · rw [show doS s what xa xb l = (twiceS s xa).1 by simp [doS, h5]]
    exact do_twice what xa xb la n lc h5 h hg (by omega) (by omega)
  by_cases h6 : what = 6
  · rw [show doS s what xa xb l = (cutS s xa xb).1 by simp [doS, h6]]
    exact do_cut what xa xb la n lc h6 h hg (by omega) (by omega)
  by_cases h7 : what = 7
  · rw [show doS s what xa xb l = (joinS s xa xb).1 by simp [doS, h7]]
    exact do_join what xa xb la n lc h7 h hg (by omega) (by omega)
  by_cases h8 : what = 8
  · rw [show doS s what xa xb l = healS s by simp [doS, h8]]
    exact do_heal what xa xb la n lc h8 h
  · rw [show doS s what xa xb l = s by simp [doS, h0, h1, h2, h3, h4, h5, h6, h7, h8]]
    exact do_none what xa xb la n lc (by omega) h
/-- an act, as it came in. -/
abbrev Ac := Int × Int × Int × List Fr
def Acts (W : World) (a : Option Addr) (acts : List Ac) : Prop :=
  ∀ i, i < acts.length → ∃ b off la lc, a = some ⟨b, off, none⟩ ∧ W.cell? ⟨b, off + i * 4, none⟩ = some (.int .i64 (acts.getD i default).1) ∧ W.cell? ⟨b, off + i * 4 + 1, none⟩ = some (.int .i64 (acts.getD i default).2.1) ∧ W.cell? ⟨b, off + i * 4 + 1 + 1, none⟩ = some (.int .i64 (acts.getD i default).2.2.1) ∧
    W.cell? ⟨b, off + i * 4 + 1 + 1 + 1, none⟩ = some (.slice la (acts.getD i default).2.2.2.length lc) ∧ Lst encF 3 W la (acts.getD i default).2.2.2
theorem takeS_len {s : St} {n : Nat} (hn : s.fl.length = n) (h : 0 < n) : (takeS s ((n : Int) / 2)).1.fl.length = n - 1 := by
  have hi : inB s ((n : Int) / 2) = true := by simp [inB]; omega
  unfold takeS
  rw [if_pos hi]
  simp only [leaveS]
  rw [List.length_eraseIdx_of_lt (by omega)]
  omega
set_option maxHeartbeats 8000000 in
set_option maxRecDepth 100000 in
theorem lawPlays (nodes : Int) (a0 : Option Addr) (cap0 : Nat) (acts : List Ac) (W : World) (hin : Acts W a0 acts) (hle : acts.length ≤ maxLen) : Calls Try.prog 6 #[.int .i64 nodes, .slice a0 acts.length cap0] W (RetB true W) := by
  unfold maxLen at hle
  by_cases hr : nodes < 1 ∨ 6 < nodes
  · have hn := Lib.hid (fun W => new_out nodes W hr)
    clear hin
    by_cases h1 : nodes < 1
    · clear hr
      go_enter Try.func6, Try.ntmps6
      go_wp2_with (first
        | (go_at_call 8; refine (hn.out _).mono ?_; rintro e w1 ⟨rfl, rfl⟩)
        | (go_at_call 14; refine (works_any _).mono ?_; rintro e w2 ⟨rfl, hb⟩))
      go_ret
      exact retB rfl hb
    · have h6 : 6 < nodes := by omega
      have h1' : 1 ≤ nodes := by omega
      clear hr h1
      go_enter Try.func6, Try.ntmps6
      go_wp2_with (first
        | (go_at_call 8; refine (hn.out _).mono ?_; rintro e w1 ⟨rfl, rfl⟩)
        | (go_at_call 14; refine (works_any _).mono ?_; rintro e w2 ⟨rfl, hb⟩))
      go_ret
      exact retB rfl hb
  · have h1 : 1 ≤ nodes := by omega
    have h6 : nodes ≤ 6 := by omega
    have hn := Lib.hid (fun W => new_any nodes W h1 h6)
    have HIn := Lib.hid hin
    have HR := Lib.hid (And.intro h1 h6)
    clear hr hin
    go_enter Try.func6, Try.ntmps6
    go_wp2_with (go_at_call 8; refine (hn.out _).mono ?_; rintro e w1 ⟨rfl, hP1, hB1⟩; have B := Lib.hid (be_new hP1 hB1); clear hP1 hB1)
    generalize w1.alloc (.cells #[.int .i64 nodes, .slice none 0 0, .slice none 0 0, .int .i64 0, .int .i64 0] 28) = V at *
    generalize w1.heap.size = q at *
    generalize hp : W.heap.size + 1 = p at *
    generalize hla : acts.length = n0 at *
    have HN0 := Lib.hid hla
    clear hla hp
    go_loopg [7] 60 (fun gk v7 wr => ∃ i : Nat, i + gk = 60 ∧ i ≤ n0 ∧ v7 = .int .i64 (i : Int) ∧ ∃ s, BE W wr (fun _ => False) p W.heap.size q s s ∧ Ok s nodes i)
    case atStart => exact ⟨0, rfl, by omega, rfl, newS nodes, B.out, good_new HR.out.1 HR.out.2, by simp [newS], by simp [newS], by simp [newS], rfl⟩
    case round =>
      obtain ⟨i, hik, hin0, rfl, s, hB, hok⟩ := hrel
      have HB := Lib.hid hB
      have HOk := Lib.hid hok
      clear hB hok B
      by_cases hlt : i < n0
      · have hli : (i : Int) < (n0 : Int) := by omega
        by_cases h60 : i < 60
        · have h60i : (i : Int) < 60 := by omega
          obtain ⟨b, off, la, lc, hab, t0, t1, t2, t3, hL⟩ := HIn.out i (by have := HN0.out; omega)
          subst hab
          have g0 := keepc' t0 HB.out.bel
          have g1 := keepc' t1 HB.out.bel
          have g2 := keepc' t2 HB.out.bel
          have g3 := keepc' t3 HB.out.bel
          have hL2 := Lib.hid (hL.below HB.out.bel)
          clear t0 t1 t2 t3 hL
          generalize acts.getD i default = act at *
          obtain ⟨what, xa, xb, l⟩ := act
          simp only at g0 g1 g2 g3 hL2
          have hdo := Lib.hid (fun Z (hb : Below wr.heap.size wr Z) => do_any what xa xb la l.length lc l (HB.out.below hb) HOk.out (by omega) (hL2.out.below hb) rfl)
          have hok1 := Lib.hid (ok_do HOk.out what xa xb l)
          generalize doS s what xa xb l = s1 at *
          have hne : ((s1.fl.length : Int) != (s1.fl.length : Int)) = false := by simp
          have hne2 : (s1.fr != s1.fr) = false := by simp
          have hne3 : (s1.bt != s1.bt) = false := by simp
          have mixed : Try.prog.follows .mixedOrders = true := by kernel_rfl
          clear hlt h60
          go_wp2_with fail
          go_region_with (first
            | (go_at_call 21; refine (hdo.out _ ((Below.refl _ wr).drew)).mono ?_; rintro e w2 ⟨rfl, hBs⟩; have hB2 := Lib.hid hBs; obtain ⟨ra, rcap, r1, r3, r4⟩ := b_ref hBs; clear hBs)
            | (go_at_call 13; refine (b_len hB2.out).mono ?_; rintro e w3 ⟨rfl, rfl⟩))
          all_goals (
            go_wp2_with (go_at_call 22; refine (b_sent hB2.out).mono ?_; rintro e w4 ⟨rfl, hb⟩; have r3' := keepc' r3 hb; have r4' := keepc' r4 hb; have hB4 := Lib.hid (hB2.out.below hb); clear hb)
            go_roundg (gk - 1)
            case measure => omega
            case rel => exact ⟨i + 1, by omega, by omega, by simp, s1, hB4.out, hok1.out⟩)
        · have h60i : (60 : Int) ≤ (i : Int) := by omega
          clear h60 HIn
          go_wp2
          go_loopg [10, 11, 12, 13] (s.fl.length) (fun gk2 v10 v11 v12 v13 wr2 => ∃ s2, BE W wr2 (fun _ => False) p W.heap.size q s2 s2 ∧ Good s2 ∧ s2.fl.length = gk2)
          case atStart => exact ⟨s, HB.out, HOk.out.good, rfl⟩
          case round =>
            obtain ⟨s2, hB2, hg2, hn2⟩ := hrel
            have HB2 := Lib.hid hB2
            have HG2 := Lib.hid hg2
            obtain ⟨ra, rcap, r1, -, -⟩ := b_ref hB2
            rw [hn2] at r1
            have HN2 := Lib.hid hn2
            have H800 := Lib.hid (show gk ≤ 800 by rw [← hn2]; exact hg2.len)
            clear hB2 hg2 HB HOk
            by_cases h0 : 0 < gk
            · have h0i : (0 : Int) < (gk : Int) := by omega
              have hg8 : (gk : Int) < 801 := by have := H800.out; omega
              have hnl := Lib.hid (takeS_len hn2 h0)
              have hgt := Lib.hid (good_take HG2.out ((gk : Int) / 2))
              have h1 := fun (V : World) (F : Nat → Prop) (h : BE W V F p W.heap.size q s2 s2) => b_take (k := (gk : Int) / 2) h HG2.out
              have h2 := fun (V : World) (F : Nat → Prop) (h : BE W V F p W.heap.size q (takeS s2 ((gk : Int) / 2)).1 s2) => b_rtake (k := (gk : Int) / 2) h HG2.out
              generalize takeS s2 ((gk : Int) / 2) = T at *
              obtain ⟨s3, ⟨f0, f1, f2⟩, tb⟩ := T
              simp only [tkV, frV] at h1 h2
              have H1 := Lib.hid h1
              have H2 := Lib.hid h2
              have hq : ∀ V, (binOp .neq 31 (.agg #[.int .i64 f0, .int .i64 f1, .string f2]) (.agg #[.int .i64 f0, .int .i64 f1, .string f2])).run Try.prog V = .ok (.bool false) V := fun V => (neq31 V f0 f1 f0 f1 f2 f2).trans (by rw [(eqF_iff _ _).2 rfl]; rfl)
              have hbb : (tb != tb) = false := by simp
              clear h1 h2 hn2 h0
              go_wp2_with (first
                | (go_at_call 17; refine (H1.out _ _ HB2.out).mono ?_; rintro e w2 ⟨rfl, hBs, -, -⟩; obtain ⟨ra2, rcap2, r2, -, -⟩ := b_ref hBs; rw [HN2.out] at r2; have r2' := fun o => keepc' r2 (bel1 w2 o); have hY := Lib.hid (heap_alloc_new w2 (.cells #[.int .i64 f0, .int .i64 f1, .string f2] 31)); have hB1 := Lib.hid ((hBs.more (bel1 w2 (.cells #[.int .i64 f0, .int .i64 f1, .string f2] 31))).less (F' := fun k => k = w2.heap.size) (fun k hk => .inr (by simp; omega))); clear hBs r2)
                | (go_at_call 23; refine (H2.out _ _ hB1.out).mono ?_; rintro e w3 ⟨rfl, hBs, hFs, -⟩; have hY2 := Lib.hid (hFs _ _ rfl hY.out); obtain ⟨y1, y2, y3⟩ := box3 hY2.out; have hB3 := Lib.hid ((hBs.less (F' := fun _ => False) (fun _ c => c.elim)).below (bel1 w3 (.cells #[.int .i64 f0, .int .i64 f1, .string f2] 31))); clear hBs hFs))
              go_roundg (gk - 1)
              case measure => omega
              case rel => exact ⟨s3, hB3.out, hgt.out, hnl.out⟩
            · obtain rfl : gk = 0 := by omega
              clear h0
              have hl0 := Lib.hid (b_len HB2.out)
              rw [HN2.out] at hl0
              go_wp2_with (first
                | (go_at_call 13; refine hl0.out.mono ?_; rintro e w2 ⟨rfl, rfl⟩)
                | (go_at_call 14; refine (works_any _).mono ?_; rintro e w2 ⟨rfl, hb⟩))
              go_ret
              exact retB rfl (grew_trans HB2.out.bel hb)
      · have hge : (n0 : Int) ≤ (i : Int) := by omega
        clear hlt HIn
        go_wp2
        go_loopg [10, 11, 12, 13] (s.fl.length) (fun gk2 v10 v11 v12 v13 wr2 => ∃ s2, BE W wr2 (fun _ => False) p W.heap.size q s2 s2 ∧ Good s2 ∧ s2.fl.length = gk2)
        case atStart => exact ⟨s, HB.out, HOk.out.good, rfl⟩
        case round =>
          obtain ⟨s2, hB2, hg2, hn2⟩ := hrel
          have HB2 := Lib.hid hB2
          have HG2 := Lib.hid hg2
          obtain ⟨ra, rcap, r1, -, -⟩ := b_ref hB2
          rw [hn2] at r1
          have HN2 := Lib.hid hn2
          have H800 := Lib.hid (show gk ≤ 800 by rw [← hn2]; exact hg2.len)
          clear hB2 hg2 HB HOk
          by_cases h0 : 0 < gk
          · have h0i : (0 : Int) < (gk : Int) := by omega
            have hg8 : (gk : Int) < 801 := by have := H800.out; omega
            have hnl := Lib.hid (takeS_len hn2 h0)
            have hgt := Lib.hid (good_take HG2.out ((gk : Int) / 2))
            have h1 := fun (V : World) (F : Nat → Prop) (h : BE W V F p W.heap.size q s2 s2) => b_take (k := (gk : Int) / 2) h HG2.out
            have h2 := fun (V : World) (F : Nat → Prop) (h : BE W V F p W.heap.size q (takeS s2 ((gk : Int) / 2)).1 s2) => b_rtake (k := (gk : Int) / 2) h HG2.out
            generalize takeS s2 ((gk : Int) / 2) = T at *
            obtain ⟨s3, ⟨f0, f1, f2⟩, tb⟩ := T
            simp only [tkV, frV] at h1 h2
            have H1 := Lib.hid h1
            have H2 := Lib.hid h2
            have hq : ∀ V, (binOp .neq 31 (.agg #[.int .i64 f0, .int .i64 f1, .string f2]) (.agg #[.int .i64 f0, .int .i64 f1, .string f2])).run Try.prog V = .ok (.bool false) V := fun V => (neq31 V f0 f1 f0 f1 f2 f2).trans (by rw [(eqF_iff _ _).2 rfl]; rfl)
            have hbb : (tb != tb) = false := by simp
            clear h1 h2 hn2 h0
            go_wp2_with (first
              | (go_at_call 17; refine (H1.out _ _ HB2.out).mono ?_; rintro e w2 ⟨rfl, hBs, -, -⟩; obtain ⟨ra2, rcap2, r2, -, -⟩ := b_ref hBs; rw [HN2.out] at r2; have r2' := fun o => keepc' r2 (bel1 w2 o); have hY := Lib.hid (heap_alloc_new w2 (.cells #[.int .i64 f0, .int .i64 f1, .string f2] 31)); have hB1 := Lib.hid ((hBs.more (bel1 w2 (.cells #[.int .i64 f0, .int .i64 f1, .string f2] 31))).less (F' := fun k => k = w2.heap.size) (fun k hk => .inr (by simp; omega))); clear hBs r2)
              | (go_at_call 23; refine (H2.out _ _ hB1.out).mono ?_; rintro e w3 ⟨rfl, hBs, hFs, -⟩; have hY2 := Lib.hid (hFs _ _ rfl hY.out); obtain ⟨y1, y2, y3⟩ := box3 hY2.out; have hB3 := Lib.hid ((hBs.less (F' := fun _ => False) (fun _ c => c.elim)).below (bel1 w3 (.cells #[.int .i64 f0, .int .i64 f1, .string f2] 31))); clear hBs hFs))
            go_roundg (gk - 1)
            case measure => omega
            case rel => exact ⟨s3, hB3.out, hgt.out, hnl.out⟩
          · obtain rfl : gk = 0 := by omega
            clear h0
            have hl0 := Lib.hid (b_len HB2.out)
            rw [HN2.out] at hl0
            go_wp2_with (first
              | (go_at_call 13; refine hl0.out.mono ?_; rintro e w2 ⟨rfl, rfl⟩)
              | (go_at_call 14; refine (works_any _).mono ?_; rintro e w2 ⟨rfl, hb⟩))
            go_ret
            exact retB rfl (grew_trans HB2.out.bel hb)
end Go.Proofs.Ytmiaifbpepfbnaa
