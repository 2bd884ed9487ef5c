/- Whatever is put, and whatever rounds there are. -/
import Derived.Test.YtkojjnkohnokoaaWorks
import Derived.Deep.RegionHeld3
namespace Go.Proofs.Ytkojjnkohnokoaa
open Go.RowKit Go.Joins

abbrev Ac := Bool × Int × Int
def encA (x : Ac) : List Value := [.bool x.1, .int .i64 x.2.1, .int .i64 x.2.2]
theorem ac_cells {w : World} {b o : Nat} {x : Ac} (h : CellsAt w b o (encA x)) : w.cell? ⟨b, o, none⟩ = some (.bool x.1) ∧ w.cell? ⟨b, o + 1, none⟩ = some (.int .i64 x.2.1) ∧ w.cell? ⟨b, o + 2, none⟩ = some (.int .i64 x.2.2) :=
  ⟨h 0 _ rfl, h 1 _ rfl, h 2 _ rfl⟩
theorem Calls.laterS {P : Program} {f : FuncId} {args : Array Value} {w0 : World} {b : Int} {x : Later w0} (h : Calls P f args x.w (SameI b x.w)) :
    Calls P f args x.w fun e w'' => e = .returned (.int .i64 b) ∧ ∃ y : Later w0, w'' = y.w := h.mono fun _ _ ⟨he, hw⟩ => ⟨he, x, hw.symm⟩
theorem keepc {w w' : World} {p : Addr} {v : Value} (h : w.cell? p = some v) (hb : Below w.heap.size w w') : w'.cell? p = some v := (hb.cell (World.block_lt_of_cell? _ _ h)).trans h
set_option maxHeartbeats 8000000 in
set_option maxRecDepth 100000 in
theorem lawPlays (a : Option Addr) (cap : Nat) (acts : List Ac) (W : World) (hin : Lst encA 3 W a acts) : Calls Try.prog 3 #[.slice a acts.length cap] W (RetB true W) := by

  have HIn := Lib.hid hin
  generalize hn : acts.length = n at *
  have hN := Lib.hid hn
  clear hin hn
  go_enter Try.func3, Try.ntmps3
  go_wp2_with (go_at_call 7; refine (new_any W).mono ?_; rintro e w1 ⟨rfl, h1, hb1⟩)
  have hBE0 : BE W (w1.alloc (.cells #[.slice none 0 0, .int .i64 0, .slice none 0 0, .int .i64 0, .slice none 0 0, .int .i64 0, .slice none 0 0, .int .i64 0, .slice none 0 0, .int .i64 0, .slice none 0 0, .int .i64 0] 31)) (fun _ => False) W.heap.size w1.heap.size new0 new0 :=
    BE.new (h1.below (bel1 w1 _)) (sch_new w1 _ 31 hb1.size) (grew_trans hb1 (bel1 w1 _)) (Nat.ne_of_lt h1.plt)
  have HBE0 := Lib.hid hBE0
  clear hBE0 h1 hb1
  generalize w1.alloc (.cells #[.slice none 0 0, .int .i64 0, .slice none 0 0, .int .i64 0, .slice none 0 0, .int .i64 0, .slice none 0 0, .int .i64 0, .slice none 0 0, .int .i64 0, .slice none 0 0, .int .i64 0] 31) = W1 at *
  generalize w1.heap.size = q at *
  generalize hp : W.heap.size = p at *
  have HP := Lib.hid hp
  clear hp
  go_loopg [5] n (fun gk v5 wr => ∃ (i : Nat) (s : St), i + gk = n ∧ i ≤ 80 ∧ v5 = .int .i64 (i : Int) ∧ BE W wr (fun _ => False) p q s s ∧ Good s)
  case atStart => exact ⟨0, new0, by omega, by omega, rfl, HBE0.out, good_new⟩
  case round =>
    obtain ⟨i, s, hik, hi80, rfl, hB, hg⟩ := hrel
    have HB := Lib.hid hB
    have HG := Lib.hid hg
    clear hB hg
    by_cases hlt : i < n
    · have hli : (i : Int) < (n : Int) := by omega
      by_cases h80 : i < 80
      · have h80i : (i : Int) < 80 := by omega
        obtain ⟨b, off, rfl, hc⟩ := HIn.out i (by have := hN.out; omega)
        obtain ⟨c0', c1', c2'⟩ := ac_cells hc
        have c0 := keepc c0' HB.out.bel
        have c1 := keepc c1' HB.out.bel
        have c2 := keepc c2' HB.out.bel
        have C1 := Lib.hid c1'
        have C2 := Lib.hid c2'
        generalize acts.getD i default = x at *
        obtain ⟨x0, x1, x2⟩ := x
        simp only at c0 c1 c2 C1 C2
        clear c0' c1' c2' hc
        cases x0 with
        | true =>
          have hgr := Lib.hid (good_round HG.out)
          have hfl := Lib.hid (roundF_len HG.out)
          have h1 := Lib.hid (b_round HB.out HG.out)
          have h2 := fun (V : World) (F : Nat → Prop) (h : BE W V F p q (roundS s) s) => b_rround h HG.out
          have H2 := Lib.hid h2
          clear h2 c1 c2 HB
          generalize roundF s = fl at *
          generalize roundS s = s2 at *
          go_upto_region 12 with (first
            | (go_at_call 9; refine h1.out.mono ?_; rintro e w3 ⟨v1, rfl, ho1, hB1, -⟩; have HO1 := Lib.hid ho1; have HB1 := Lib.hid hB1; clear ho1 hB1 h1)
            | (go_at_call 10; refine (H2.out _ _ HB1.out).mono ?_; rintro e w4 ⟨v2, rfl, ho2, hB2, hm2⟩; have ho1 := HO1.out.mod hm2 (fun g hg c => c.1 (.inr hg)); obtain ⟨a1, cp1, rfl, hs1, -⟩ := ho1.sli EF; obtain ⟨a2, cp2, rfl, hs2, -⟩ := ho2.sli EF; have HL1 := Lib.hid hs1.lst; have HL2 := Lib.hid hs2.lst; have HB2 := Lib.hid (hB2.less (F' := fun _ => False) (fun _ c => c.elim)); clear ho1 ho2 hs1 hs2 HB1 HO1 hB2 hm2 H2)
            | (go_at_call 8; refine (frames_any _ _ _ _ fl _ HL1.out HL2.out (Nat.le_trans hfl.out (by decide))).mono ?_; rintro e w5 ⟨rfl, m5, rfl⟩; have HB3 := Lib.hid (HB2.out.below (w' := w4.drewN m5) ((below_drewN (Below.refl _ _) m5))); clear HL1 HL2 HB2))
          have hci := keepc C1.out HB3.out.bel
          generalize w4.drewN m5 = W5 at *
          have l1 := fun y : Later W5 => y.cell hci
          have hA := Lib.hid (fun y : Later W5 => b_len (HB3.out.below y.h) hgr.out)
          have hB := Lib.hid (fun y : Later W5 => b_rlen (HB3.out.below y.h) hgr.out)
          have hC := Lib.hid (fun y : Later W5 => b_waits (lk := x1) (HB3.out.below y.h) hgr.out)
          have hD := Lib.hid (fun y : Later W5 => b_rwaits (lk := x1) (HB3.out.below y.h) hgr.out)
          generalize (lenS s2 : Int) = ln at *
          generalize waitsS s2 x1 = wn at *
          have hl1 : (ln != ln) = false := by simp
          have hl2 : (wn != wn) = false := by simp
          clear hci
          refine wp_region_later_lit (by kernel_rfl) (by kernel_rfl) ?_
          repeat (any_goals (first | go_big_quiet_step (first | (go_at_call 14; with_reducible exact Calls.laterI (hA.out _)) | (go_at_call 15; with_reducible exact Calls.laterS (hB.out _)) | (go_at_call 16; with_reducible exact Calls.laterS (hC.out _)) | (go_at_call 17; with_reducible exact Calls.laterS (hD.out _))) | quiet_step (first | (go_at_call 14; with_reducible exact Calls.laterI (hA.out _)) | (go_at_call 15; with_reducible exact Calls.laterS (hB.out _)) | (go_at_call 16; with_reducible exact Calls.laterS (hC.out _)) | (go_at_call 17; with_reducible exact Calls.laterS (hD.out _)))))
          refine wpQuiet_nil ?_
          intro _ hw'
          obtain ⟨y, hw''⟩ := hw'
          subst hw''
          have hy := Lib.hid y.h
          clear l1 hA hB hC hD
          generalize y.w = Y at *
          go_wp2
          go_roundg (gk - 1)
          case measure => omega
          case rel => exact ⟨i + 1, s2, by omega, by omega, by simp, HB3.out.below hy.out, hgr.out⟩
        | false =>
          have hgr := Lib.hid (good_put HG.out x1 (textB x2 i))
          obtain ⟨X, hX⟩ : ∃ X, X = textB x2 i := ⟨_, rfl⟩
          have h1 := fun (V : World) (h : BE W V (fun _ => False) p q s s) => b_put (lk := x1) (b := X) h
          have h2 := fun (V : World) (h : BE W V (fun _ => False) p q (putS s x1 X) s) => b_rput (lk := x1) (b := X) h
          have ht := fun (V : World) => text_any x2 i V (by omega) (by omega)
          rw [← hX] at hgr ht
          have H1 := Lib.hid h1
          have H2 := Lib.hid h2
          have HT := Lib.hid ht
          clear h1 h2 ht hX
          generalize putS s x1 X = s2 at *
          generalize putE s x1 X = en at *
          have hen : (en != en) = false := by simp
          go_wp2
          clear c0
          have T1 := trivial
          go_region_held3 (fun w' => w'.cell? ⟨b, off + i * 3 + 1, none⟩ = some (.int .i64 x1) ∧ w'.cell? ⟨b, off + i * 3 + 2, none⟩ = some (.int .i64 x2)) (first | exact ⟨d7, d8⟩ | exact ⟨d5, d6⟩ | exact ⟨d3, d4⟩ | exact ⟨d1, d2⟩ | exact ⟨c1, c2⟩ | go_keep) (first
            | (have z := T1; go_at_call 12; refine (HT.out _).mono ?_; rintro e w3 ⟨rfl, hb⟩; have N1 := Lib.hid ((HB.out.below ((Below.refl _ wr).drew)).below hb); have d1 := keepc c1 (((Below.refl _ wr).drew).trans hb); have d2 := keepc c2 (((Below.refl _ wr).drew).trans hb); clear T1 z hb; have T2 := trivial)
            | (have z := T2; go_at_call 11; refine (H1.out _ N1.out).mono ?_; rintro e w4 ⟨rfl, hB1, -⟩; have N2 := Lib.hid hB1; have d3 := keepc C1.out hB1.bel; have d4 := keepc C2.out hB1.bel; clear T2 z hB1; have T3 := trivial)
            | (have z := T3; go_at_call 12; refine (HT.out _).mono ?_; rintro e w5 ⟨rfl, hb⟩; have N3 := Lib.hid (N2.out.below hb); have d5 := keepc d3 hb; have d6 := keepc d4 hb; clear T3 z hb; have T4 := trivial)
            | (have z := T4; go_at_call 13; refine (H2.out _ N3.out).mono ?_; rintro e w6 ⟨rfl, hB1, -⟩; have HB3 := Lib.hid hB1; have d7 := keepc C1.out hB1.bel; have d8 := keepc C2.out hB1.bel; clear T4 z hB1))
          all_goals (
            clear d1 d2 d3 d4 d5 d6 d7 d8 N1 N2 N3 HT H1 H2 c1 c2 HB
            go_upto_region 12 with fail
            have hci := keepc C1.out HB3.out.bel
            generalize w6 = W5 at *
            have l1 := fun y : Later W5 => y.cell hci
            have hA := Lib.hid (fun y : Later W5 => b_len (HB3.out.below y.h) hgr.out)
            have hB := Lib.hid (fun y : Later W5 => b_rlen (HB3.out.below y.h) hgr.out)
            have hC := Lib.hid (fun y : Later W5 => b_waits (lk := x1) (HB3.out.below y.h) hgr.out)
            have hD := Lib.hid (fun y : Later W5 => b_rwaits (lk := x1) (HB3.out.below y.h) hgr.out)
            generalize (lenS s2 : Int) = ln at *
            generalize waitsS s2 x1 = wn at *
            have hl1 : (ln != ln) = false := by simp
            have hl2 : (wn != wn) = false := by simp
            clear hci
            refine wp_region_later_lit (by kernel_rfl) (by kernel_rfl) ?_
            repeat (any_goals (first | go_big_quiet_step (first | (go_at_call 14; with_reducible exact Calls.laterI (hA.out _)) | (go_at_call 15; with_reducible exact Calls.laterS (hB.out _)) | (go_at_call 16; with_reducible exact Calls.laterS (hC.out _)) | (go_at_call 17; with_reducible exact Calls.laterS (hD.out _))) | quiet_step (first | (go_at_call 14; with_reducible exact Calls.laterI (hA.out _)) | (go_at_call 15; with_reducible exact Calls.laterS (hB.out _)) | (go_at_call 16; with_reducible exact Calls.laterS (hC.out _)) | (go_at_call 17; with_reducible exact Calls.laterS (hD.out _)))))
            refine wpQuiet_nil ?_
            intro _ hw'
            obtain ⟨y, hw''⟩ := hw'
            subst hw''
            have hy := Lib.hid y.h
            clear l1 hA hB hC hD
            generalize y.w = Y at *
            go_wp2
            go_roundg (gk - 1)
            case measure => omega
            case rel => exact ⟨i + 1, s2, by omega, by omega, by simp, HB3.out.below hy.out, hgr.out⟩)
      · have h80i : (80 : Int) ≤ (i : Int) := by omega
        clear h80
        go_wp2_with (go_at_call 18; refine (works_any _).mono ?_; rintro e w2 ⟨rfl, hb⟩)
        go_ret
        exact retB rfl (grew_trans HB.out.bel hb)
    · have hge : (n : Int) ≤ (i : Int) := by omega
      clear hlt
      go_wp2_with (go_at_call 18; refine (works_any _).mono ?_; rintro e w2 ⟨rfl, hb⟩)
      go_ret
      exact retB rfl (grew_trans HB.out.bel hb)
end Go.Proofs.Ytkojjnkohnokoaa
