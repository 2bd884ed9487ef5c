/- What is put goes, once, in order, in time. -/
import Derived.Test.YtkojjnkohnokoaaAllP
import Derived.Test.YtkojjnkohnokoaaPlays
import Derived.Shelf.RegionOpenPlain
import Derived.Test.YtkojjnkohnokoaaHeldLast
namespace Go.Proofs.Ytkojjnkohnokoaa
open Go.RowKit Go.Joins

/-- the text that an act puts. -/
def tx (sz : Int) (i : Nat) : BA := textB (1 + (max 0 sz) % 400) i
theorem tx_size (sz : Int) (i : Nat) : 0 < (tx sz i).size ∧ (tx sz i).size ≤ 400 := by
  unfold tx; rw [textB_size]; unfold clN; omega
set_option linter.unusedSimpArgs false in
set_option maxHeartbeats 16000000 in
set_option maxRecDepth 100000 in
theorem lawAll (a : Option Addr) (cap : Nat) (acts : List Ac) (W : World) (hin : Lst encA 3 W a acts) : Calls Try.prog 4 #[.slice a acts.length cap] W (RetB true W) := by
  have HIn := Lib.hid hin
  generalize hn : acts.length = n at *
  have hN := Lib.hid hn
  clear hin hn
  have mixed : Try.prog.follows .mixedOrders = true := by kernel_rfl
  go_enter Try.func4, Try.ntmps4
  go_wp2_with (go_at_call 7; refine (o_new W).mono ?_; rintro e w1 ⟨p, rfl, h1, hb1⟩)
  have HT0 := Lib.hid (te_start h1)
  clear h1 hb1
  generalize (w1.alloc (.cells #[.slice none 0 0, .slice none 0 0, .slice none 0 0, .slice none 0 0, .slice none 0 0, .slice none 0 0] 44)).alloc (.cells #[.slice none 0 0, .slice none 0 0, .slice none 0 0, .slice none 0 0, .slice none 0 0, .slice none 0 0] 44) = W1 at *
  generalize hbw : w1.heap.size + 1 = bw at *
  generalize hbp : w1.heap.size = bp at *
  clear hbw hbp
  go_loopg [6, 7, 8, 9] n (fun gk v6 _ _ _ wr => ∃ (i : Nat) (s : St) (qp qw : Nat → List BA), i + gk = n ∧ i ≤ 24 ∧ v6 = .int .i64 (i : Int) ∧ TE W wr (fun _ => False) p bp bw s qp qw ∧ Good s ∧ Same qp qw s ∧ ∀ j, j < 6 → (qp j).length ≤ i)
  case atStart => exact ⟨0, new0, _, _, by omega, by omega, rfl, HT0.out, good_new, fun j _ => by simp [new0], fun j _ => by simp⟩
  case round =>
    obtain ⟨i, s, qp, qw, hik, hi24, rfl, hT, hg, hsm, hln⟩ := hrel
    have HT := Lib.hid hT
    have HG := Lib.hid hg
    have HS := Lib.hid hsm
    have HL := Lib.hid hln
    clear hT hg hsm hln HT0
    go_upto_region 6 with fail
    go_cut [27] from 20 to 27 (fun v27 wx => v27 = .bool (decide (i < n ∧ i < 24)) ∧ wx = wr)
    case first =>
      by_cases h1 : i < n
      · have h1i : (i : Int) < (n : Int) := by omega
        by_cases h2 : i < 24
        · have h2i : (i : Int) < 24 := by omega
          go_wp2
          go_meet
          exact ⟨by simp [h1, h2], rfl⟩
        · have h2i : (24 : Int) ≤ (i : Int) := by omega
          go_wp2
          go_meet
          exact ⟨by simp [h2]; omega, rfl⟩
      · have h1i : (n : Int) ≤ (i : Int) := by omega
        go_wp2
        go_meet
        exact ⟨by simp [h1], rfl⟩
    case rest =>
    obtain ⟨rfl, rfl⟩ := hcut
    by_cases hlt : i < n ∧ i < 24
    · rw [decide_eq_true hlt]
      obtain ⟨hlt1, hlt2⟩ := hlt
      have hli : (i : Int) < (n : Int) := by omega
      have h24i : (i : Int) < 24 := by omega
      obtain ⟨b, off, rfl, hc⟩ := HIn.out i (by have := hN.out; omega)
      obtain ⟨c0', c1', c2'⟩ := ac_cells hc
      have c0 := keepc c0' HT.out.bel
      have c1 := keepc c1' HT.out.bel
      have c2 := keepc c2' HT.out.bel
      have C1 := Lib.hid c1'
      generalize acts.getD i default = x at *
      obtain ⟨x0, x1, x2⟩ := x
      simp only at c0 c1 c2 C1
      clear c0' c1' c2' hc
      cases x0 with
      | true =>
        have hgr := Lib.hid (good_round HG.out)
        have hfl := Lib.hid (roundF_len HG.out)
        have hto := Lib.hid (fun x (hx : x ∈ roundF s) => roundF_to (k := 6) x hx)
        have hsr := Lib.hid (same_round HS.out)
        have hqwl := Lib.hid (show ∀ j, j < 6 → (qw j).length ≤ 24 from fun j hj => by have h1 := HL.out j hj; rw [HS.out j hj, List.length_append] at h1; omega)
        have h1 := Lib.hid (te_round HT.out HG.out)
        generalize roundF s = fl at *
        generalize roundS s = s2 at *
        go_wp2_with (go_at_call 9; refine h1.out.mono ?_; rintro e w3 ⟨v1, rfl, ho1, hT1, hsz1⟩; obtain ⟨va, vc, rfl, -⟩ := ho1.sli EF; have HT1 := Lib.hid (hT1.less (F1 := fun k => (Value.slice va fl.length vc).ownBlock = some k) (fun k hk => .inr hk)); have HO1 := Lib.hid (ho1.mono (base' := W.heap.size) (Nat.le_trans HT.out.bel.size (Nat.le_refl _))); clear ho1 hT1)
        clear h1 HT
        have hfn24 := hfl.out
        generalize hfn : fl.length = fn at *
        have HFN := Lib.hid hfn
        clear hfn
        go_loopg [8] fn (fun gq v8 wr2 => ∃ k : Nat, k + gq = fn ∧ v8 = .int .i64 (k : Int) ∧ TE W wr2 (fun g => (Value.slice va fn vc).ownBlock = some g) p bp bw s2 qp (addTo qw (fl.take k)) ∧ OwnL encF 3 46 wr2 W.heap.size (.slice va fn vc) fl)
        case atStart => exact ⟨0, by omega, rfl, by simpa [addTo_nil] using HT1.out, HO1.out⟩
        case round =>
          obtain ⟨k, hkq, rfl, hT2, hO2⟩ := hrel
          have HO2 := Lib.hid hO2
          clear HT1 HO1
          by_cases hlk : k < fn
          · have hlki : (k : Int) < (fn : Int) := by omega
            have hkl : k < fl.length := by have := HFN.out; omega
            have HTK := Lib.hid (addTo_take qw hkl)
            obtain ⟨va', vc', ev, hsl, -⟩ := hO2.sli EF
            simp at ev
            obtain ⟨rfl, -, rfl⟩ := ev
            obtain ⟨bb, oo, rfl, hcc⟩ := hsl.lst k hkl
            obtain ⟨d0, d1, d2⟩ := fr_cells hcc
            have hx6 := hto.out (fl.getD k default) (by rw [List.getD_eq_getElem?_getD, List.getElem?_eq_getElem hkl]; exact List.getElem_mem hkl)
            have hlen := Lib.hid (show (addTo qw (fl.take k) (fl.getD k default).1).length ≤ 1000000 by
              have h1 := hqwl.out _ hx6
              have h2 : ((fl.take k).filter fun x => x.1 == (fl.getD k default).1).length ≤ (fl.take k).length := List.length_filter_le _ _
              simp only [addTo, List.length_append, List.length_map, List.length_take] at h2 ⊢
              omega)
            clear hcc d0 hsl
            generalize fl.getD k default = y at *
            obtain ⟨y1, y2⟩ := y
            simp only at d1 d2 hx6
            obtain ⟨ga, gc, hgc, hgf, hgq, hgn, hgl, hgo, hgt⟩ := hT2.went hx6
            have HNE := Lib.hid (hgo bb rfl)
            clear hgo
            have e1 := cell_one_new wr (.string y2) 9 0 (.string y2) rfl
            rw [Go.WideShapes.add_plain, Nat.zero_add] at e1
            have hBd := Lib.hid ((Below.refl _ wr).drew.alloc (Nat.le_refl _) (.cells #[.string y2] 9))
            have HQ0 := Lib.hid (hgq.below hBd.out)
            have hcB := Lib.hid ((hBd.out.cell (p := ⟨bw, y1, none⟩) hgl).trans hgc)
            have hfB := Lib.hid ((hBd.out.frozen (p := ⟨bw, y1, none⟩) hgl).trans hgf)
            have hgc' : ∀ o, (wr.alloc o).cell? ⟨bw, y1, none⟩ = _ := fun o => ((bel1 wr o).cell (p := ⟨bw, y1, none⟩) hgl).trans hgc
            have d1' := fun o => keepc d1 (bel1 wr o)
            have d2' := fun o => keepc d2 (bel1 wr o)
            have dd1 := Lib.hid (keepc d1 hBd.out)
            have dd2 := Lib.hid (keepc d2 hBd.out)
            have HGN := Lib.hid hgn
            have HGT := Lib.hid hgt
            have HWS := Lib.hid hT2.bel.size
            have hy6 : (y1 : Int) < 6 := by omega
            have HX6 := Lib.hid hx6
            clear hgq hgn hgt hT2 hO2
            generalize addTo qw (fl.take k) y1 = ql at *
            go_upto_region 13 with fail
            refine wp_region_noPanic ?_
            refine wp_region_last (fun w' => w'.cell? ⟨bb, oo + k * 3 + 1, none⟩ = some (.int .i64 (y1 : Int)) ∧ w'.cell? ⟨bb, oo + k * 3 + 2, none⟩ = some (.string y2) ∧ w'.cell? ⟨bw, y1, none⟩ = some (.slice ga ql.length gc)) (by kernel_rfl) ⟨d1, d2, hgc⟩ (fun hS0 => ?_)
            refine wpAnyL_take 0 (v := ?_) rfl (by kernel_rfl) (fun _ _ _ h => h) (Or.inl ⟨by rfl, ?_⟩) (by assumption) ?_
            rotate_left
            · (intro w5 hSw; (try dsimp only at hSw); go_split_ands; go_simp; (try with_reducible rfl))
            try simp only [Act.put, List.setIfInBounds_toArray, List.set_cons_zero, List.set_cons_succ]
            refine wpAnyL_take 1 (v := ?_) rfl (by kernel_rfl) (fun _ _ _ h => h) (Or.inl ⟨by rfl, ?_⟩) (by assumption) ?_
            rotate_left
            · (intro w5 hSw; (try dsimp only at hSw); go_split_ands; go_simp; (try with_reducible rfl))
            try simp only [Act.put, List.setIfInBounds_toArray, List.set_cons_zero, List.set_cons_succ]
            refine wpAnyL_take 2 (v := ?_) rfl (by kernel_rfl) (fun _ _ _ h => h) (Or.inl ⟨by rfl, ?_⟩) (by assumption) ?_
            rotate_left
            · (intro w5 hSw; (try dsimp only at hSw); go_split_ands; go_simp; (try with_reducible rfl))
            try simp only [Act.put, List.setIfInBounds_toArray, List.set_cons_zero, List.set_cons_succ]
            refine wpAnyL_take 3 (v := ?_) rfl (by kernel_rfl) (fun _ _ _ h => h) (Or.inl ⟨by rfl, ?_⟩) (by assumption) ?_
            rotate_left
            · (intro w5 hSw; (try dsimp only at hSw); go_split_ands; go_simp; (try with_reducible rfl))
            try simp only [Act.put, List.setIfInBounds_toArray, List.set_cons_zero, List.set_cons_succ]
            refine wpAnyL_take 4 (v := ?_) rfl (by kernel_rfl) (fun _ _ _ h => h) (Or.inl ⟨by rfl, ?_⟩) (by assumption) ?_
            rotate_left
            · (intro w5 hSw; (try dsimp only at hSw); go_split_ands; go_simp; (try with_reducible rfl))
            try simp only [Act.put, List.setIfInBounds_toArray, List.set_cons_zero, List.set_cons_succ]
            refine wpAnyL_take 5 (v := ?_) rfl (by kernel_rfl) (fun _ _ _ h => h) (Or.inl ⟨by rfl, ?_⟩) (by assumption) ?_
            rotate_left
            · (intro w5 hSw; (try dsimp only at hSw); go_split_ands; go_simp; (try with_reducible rfl))
            try simp only [Act.put, List.setIfInBounds_toArray, List.set_cons_zero, List.set_cons_succ]
            refine wpAnyL_take 6 (v := ?_) rfl (by kernel_rfl) (fun _ _ _ h => h) (Or.inl ⟨by rfl, ?_⟩) (by assumption) ?_
            rotate_left
            · (intro w5 hSw; (try dsimp only at hSw); go_split_ands; go_simp; (try with_reducible rfl))
            try simp only [Act.put, List.setIfInBounds_toArray, List.set_cons_zero, List.set_cons_succ]
            refine wpAnyL_take 7 (v := ?_) rfl (by kernel_rfl) (fun _ _ _ h => h) (Or.inl ⟨by rfl, ?_⟩) (by assumption) ?_
            rotate_left
            · (intro w5 hSw; (try dsimp only at hSw); go_split_ands; go_simp; (try with_reducible rfl))
            try simp only [Act.put, List.setIfInBounds_toArray, List.set_cons_zero, List.set_cons_succ]
            refine wpAnyL_take 8 (v := ?_) rfl (by kernel_rfl) (fun _ _ _ h => h) (Or.inl ⟨by rfl, ?_⟩) (by assumption) ?_
            rotate_left
            · (intro w5 hSw; (try dsimp only at hSw); go_split_ands; go_simp; (try with_reducible rfl))
            try simp only [Act.put, List.setIfInBounds_toArray, List.set_cons_zero, List.set_cons_succ]
            refine wpAnyL_take 9 (v := ?_) rfl (by kernel_rfl) (fun _ _ _ h => h) (Or.inl ⟨by rfl, ?_⟩) (by assumption) ?_
            rotate_left
            · (intro w5 hSw; (try dsimp only at hSw); go_split_ands; go_simp; (try with_reducible rfl))
            try simp only [Act.put, List.setIfInBounds_toArray, List.set_cons_zero, List.set_cons_succ]
            refine wpAnyL_take 10 (v := ?_) rfl (by kernel_rfl) (fun _ _ _ h => h) (Or.inl ⟨by rfl, ?_⟩) (by assumption) ?_
            rotate_left
            · (intro w5 hSw; (try dsimp only at hSw); go_split_ands; go_simp; (try with_reducible rfl))
            try simp only [Act.put, List.setIfInBounds_toArray, List.set_cons_zero, List.set_cons_succ]
            refine wpAnyL_take 11 (v := ?_) rfl (by kernel_rfl) (fun _ _ _ h => h) (Or.inl ⟨by rfl, ?_⟩) (by assumption) ?_
            rotate_left
            · (intro w5 hSw; (try dsimp only at hSw); go_split_ands; go_simp; (try with_reducible rfl))
            try simp only [Act.put, List.setIfInBounds_toArray, List.set_cons_zero, List.set_cons_succ]
            refine wpAnyL_take 12 (v := ?_) rfl (by kernel_rfl) (fun _ _ _ h => h) (Or.inl ⟨by rfl, ?_⟩) (by assumption) ?_
            rotate_left
            · (intro w5 hSw; (try dsimp only at hSw); go_split_ands; go_simp; (try with_reducible rfl))
            try simp only [Act.put, List.setIfInBounds_toArray, List.set_cons_zero, List.set_cons_succ]
            refine wpAnyL_take 13 (v := ?_) rfl (by kernel_rfl) (fun _ _ _ h => h) (Or.inl ⟨by rfl, ?_⟩) (by assumption) ?_
            rotate_left
            · (intro w5 hSw; (try dsimp only at hSw); go_split_ands; go_simp; (try with_reducible rfl))
            try simp only [Act.put, List.setIfInBounds_toArray, List.set_cons_zero, List.set_cons_succ]
            refine wpAnyL_take 14 (v := ?_) rfl (by kernel_rfl) (fun _ _ _ h => h) (Or.inl ⟨by rfl, ?_⟩) (by assumption) ?_
            rotate_left
            · (intro w5 hSw; (try dsimp only at hSw); go_split_ands; go_simp; (try with_reducible rfl))
            try simp only [Act.put, List.setIfInBounds_toArray, List.set_cons_zero, List.set_cons_succ]
            refine wpAnyL_take 15 (v := ?_) rfl (by kernel_rfl) (fun _ _ _ h => h) (Or.inl ⟨by rfl, ?_⟩) (by assumption) ?_
            rotate_left
            · (intro w5 hSw; (try dsimp only at hSw); go_split_ands; go_simp; (try with_reducible rfl))
            try simp only [Act.put, List.setIfInBounds_toArray, List.set_cons_zero, List.set_cons_succ]
            refine wpAnyL_take 16 (v := ?_) rfl (by kernel_rfl) (fun _ _ _ h => h) (Or.inl ⟨by rfl, ?_⟩) (by assumption) ?_
            rotate_left
            · (intro w5 hSw; (try dsimp only at hSw); go_split_ands; go_simp; (try with_reducible rfl))
            try simp only [Act.put, List.setIfInBounds_toArray, List.set_cons_zero, List.set_cons_succ]
            refine wpAnyL_step 17 (by kernel_rfl) (by rfl) (fun K5 hK => ?_)
            go_simp
            refine hK.out _ _ ⟨d1' _, d2' _, hgc' _⟩ (fun hS1 => ?_)
            clear hK K5
            try simp only [Act.put, List.setIfInBounds_toArray, List.set_cons_zero, List.set_cons_succ]
            refine wpAnyL_step 18 (by kernel_rfl) (by rfl) (fun K5 hK => ?_)
            refine step_que (v := .slice ga ql.length gc) (base := W.heap.size) rfl (.tmp 54) (.tmp 60) rfl (by simp [Act.eval]) HQ0.out (by have := HWS.out; simp; omega) hlen.out ⟨wr.heap.size, 0, none⟩ 1 y2 (by simp [Act.eval]) e1 ?_; intro v' w' ho hgr hat; obtain ⟨a', c', rfl, -⟩ := ho.form; have d1n := hgr.cell dd1.out HNE.out.symm; have d2n := hgr.cell dd2.out HNE.out.symm; have hc1 := hgr.cell (a := ⟨bw, y1, none⟩) hcB.out HGN.out.symm; have hf1 : w'.frozen? ⟨bw, y1, none⟩ = false := (World.frozen?_of_block (a := ⟨bw, y1, none⟩) (hgr.block bw (by simp; have := hgl; omega) HGN.out.symm)).trans hfB.out
            refine hK.out _ _ ⟨d1n, d2n, hc1⟩ (fun hS2 => ?_)
            clear hK K5
            try simp only [Act.put, List.setIfInBounds_toArray, List.set_cons_zero, List.set_cons_succ]
            refine wpAnyL_take 19 (v := ?_) rfl (by kernel_rfl) (fun _ _ _ h => h) (Or.inl ⟨by rfl, ?_⟩) (by assumption) ?_
            rotate_left
            · (intro w5 hSw; (try dsimp only at hSw); go_split_ands; go_simp; (try with_reducible rfl))
            try simp only [Act.put, List.setIfInBounds_toArray, List.set_cons_zero, List.set_cons_succ]
            refine wpAnyL_end 20 (by kernel_rfl) (by rfl) (by kernel_rfl) (by kernel_rfl) (fun K5 hK => ?_)
            go_simp
            refine hK.out _ _ (NoPanic.normal ?_)
            clear hK K5
            rw [List.length_append, List.length_singleton] at ho hat
            have hm := (Mod.of_below hBd.out (Nat.le_refl _) (fun g => (Value.slice ga ql.length gc).ownBlock = some g)).trans (Mod.grown hgr (fun k hk => hk))
            obtain ⟨t1, S, t2, t3⟩ := HGT.out _ w' y2 ho hm (fun g hg => (hat g hg).imp id (fun h => by simp at h; omega))
            have HN1 := Lib.hid t1
            have HN2 := Lib.hid (HO2.out.mod t2 (fun g hg => t3 g hg))
            clear hS0 hS1 hS2 dd2 d2n t1 t2 t3 hm ho hgr hat hc1 hf1 d1n HGT HGN HQ0 hBd hcB hfB hgc hgf d1 d2 d1' d2' hgc' e1 dd1 HO2
            generalize w'.setCell ⟨bw, y1, none⟩ (.slice a' (ql.length + 1) c') = Z at *
            go_wp2
            go_roundg (gk - 1)
            case measure => omega
            case rel => exact ⟨k + 1, by omega, by simp, by rw [HTK.out]; exact HN1.out, HN2.out⟩
          · have hge : (fn : Int) ≤ (k : Int) := by omega
            obtain rfl : k = fn := by omega
            have hall := Lib.hid (show addTo qw (fl.take k) = addTo qw fl by rw [List.take_of_length_le (by have := HFN.out; omega)])
            have HN1 := Lib.hid (hT2.less (F1 := fun _ => False) (fun _ c => c.elim))
            clear hT2 hO2 HO2 hlk
            go_wp2
            go_roundg (n - i - 1)
            case measure => omega
            case rel => exact ⟨i + 1, s2, qp, addTo qw fl, by omega, by omega, by simp, by rw [← hall.out]; exact HN1.out, hgr.out, hsr.out, fun j hj => Nat.le_succ_of_le (HL.out j hj)⟩
      | false =>
        obtain ⟨T, hT⟩ : ∃ T, T = tx x2 i := ⟨_, rfl⟩
        have HTx := Lib.hid (fun V (m : Int) (hm : m = 1 + (max 0 x2) % 400) => (show Calls Try.prog 12 #[.int .i64 m, .int .i64 (i : Int)] V (RetV (.string T) V) from hm ▸ hT ▸ text_any _ _ V (by omega) (by omega)))
        clear hT
        go_upto_region 14 with fail
        clear c0
        go_cut [9] from 63 to 72 (fun v9 wx => v9 = .string T ∧ TE W wx (fun _ => False) p bp bw s qp qw)
        case first =>
          by_cases hx : x2 ≤ 0
          · have hx3 : ¬ 0 < x2 := by omega
            have hz : (1 : Int) = 1 + (max 0 x2) % 400 := by omega
            have HZ := Lib.hid hz
            clear hz
            go_wp2_with (go_at_call 12; refine (HTx.out _ _ (by first | exact HZ.out | (have := HZ.out; omega))).mono ?_; rintro e w3 ⟨rfl, hb⟩; have N1 := Lib.hid (HT.out.below hb); clear hb)
            go_meet
            exact ⟨rfl, N1.out⟩
          · have hx1 : 0 < x2 := by omega
            have hx2 : 0 ≤ x2 := by omega
            have hz : 1 + x2 % 400 = 1 + (max 0 x2) % 400 := by omega
            have HZ := Lib.hid hz
            have hq1 : x2 % 400 ≤ 399 := by omega
            have hq0 : 0 ≤ x2 % 400 := by omega
            clear hz hx
            go_wp2_with (go_at_call 12; refine (HTx.out _ _ (by first | exact HZ.out | (have := HZ.out; omega))).mono ?_; rintro e w3 ⟨rfl, hb⟩; have N1 := Lib.hid (HT.out.below hb); clear hb)
            go_meet
            exact ⟨rfl, N1.out⟩
        case rest =>
          obtain ⟨rfl, hN1⟩ := hcut
          have N1 := Lib.hid hN1
          have c1 := keepc C1.out hN1.bel
          clear hN1 HT c2
          have HP := Lib.hid (te_put (lk := x1) (b := T) N1.out)
          by_cases he : putE s x1 T = 0
          · obtain ⟨k, hk6, rfl, hps⟩ := put_ok he
            have hgp := Lib.hid (hps ▸ good_put HG.out (k : Int) T)
            have hsp := Lib.hid (same_put (b := T) (k := k) HS.out)
            rw [he, hps] at HP
            clear he hps
            have hk6i : (k : Int) < 6 := by omega
            go_upto_region 16 with (go_at_call 11; refine HP.out.mono ?_; rintro e w4 ⟨rfl, hT4⟩)
            have HT4 := Lib.hid hT4
            obtain ⟨ga, gc, hgc, hgf, hgq, hgn, hgl, -, hgt⟩ := hT4.swap.went hk6
            have cc := keepc C1.out hT4.bel
            have e1 := cell_one_new w4 (.string T) 9 0 (.string T) rfl
            rw [Go.WideShapes.add_plain, Nat.zero_add] at e1
            have hBd := Lib.hid ((Below.refl _ w4).drew.alloc (Nat.le_refl _) (.cells #[.string T] 9))
            have HQ0 := Lib.hid (hgq.below hBd.out)
            have hcB := Lib.hid ((hBd.out.cell (p := ⟨bp, k, none⟩) hgl).trans hgc)
            have hfB := Lib.hid ((hBd.out.frozen (p := ⟨bp, k, none⟩) hgl).trans hgf)
            have hgc' : ∀ o, (w4.alloc o).cell? ⟨bp, k, none⟩ = _ := fun o => ((bel1 w4 o).cell (p := ⟨bp, k, none⟩) hgl).trans hgc
            have cc' := fun o => keepc cc (bel1 w4 o)
            have HGN := Lib.hid hgn
            have HGT := Lib.hid hgt
            have HWS := Lib.hid hT4.bel.size
            have hlen := Lib.hid (show (qp k).length ≤ 1000000 by have := HL.out k hk6; omega)
            have ccB := Lib.hid (keepc cc hBd.out)
            have HNE := Lib.hid (show ∀ g, (Value.slice ga (qp k).length gc).ownBlock = some g → W.heap.size ≤ g from fun g hg => (hgq.lt hg).1)
            have HBW := Lib.hid (World.block_lt_of_cell? _ _ C1.out)
            clear hgq hgn hgt hT4 N1 HP c1
            generalize hql : qp k = ql at *
            have HQL := Lib.hid hql
            clear hql
            refine wp_region_noPanic ?_
            refine wp_region_last (fun w' => w'.cell? ⟨b, off + i * 3 + 1, none⟩ = some (.int .i64 (k : Int)) ∧ w'.cell? ⟨bp, k, none⟩ = some (.slice ga ql.length gc)) (by kernel_rfl) ⟨cc, hgc⟩ (fun hS0 => ?_)
            refine wpAnyL_take 0 (v := ?_) rfl (by kernel_rfl) (fun _ _ _ h => h) (Or.inl ⟨by rfl, ?_⟩) (by assumption) ?_
            rotate_left
            · (intro w5 hSw; (try dsimp only at hSw); go_split_ands; go_simp; (try with_reducible rfl))
            try simp only [Act.put, List.setIfInBounds_toArray, List.set_cons_zero, List.set_cons_succ]
            refine wpAnyL_take 1 (v := ?_) rfl (by kernel_rfl) (fun _ _ _ h => h) (Or.inl ⟨by rfl, ?_⟩) (by assumption) ?_
            rotate_left
            · (intro w5 hSw; (try dsimp only at hSw); go_split_ands; go_simp; (try with_reducible rfl))
            try simp only [Act.put, List.setIfInBounds_toArray, List.set_cons_zero, List.set_cons_succ]
            refine wpAnyL_take 2 (v := ?_) rfl (by kernel_rfl) (fun _ _ _ h => h) (Or.inl ⟨by rfl, ?_⟩) (by assumption) ?_
            rotate_left
            · (intro w5 hSw; (try dsimp only at hSw); go_split_ands; go_simp; (try with_reducible rfl))
            try simp only [Act.put, List.setIfInBounds_toArray, List.set_cons_zero, List.set_cons_succ]
            refine wpAnyL_take 3 (v := ?_) rfl (by kernel_rfl) (fun _ _ _ h => h) (Or.inl ⟨by rfl, ?_⟩) (by assumption) ?_
            rotate_left
            · (intro w5 hSw; (try dsimp only at hSw); go_split_ands; go_simp; (try with_reducible rfl))
            try simp only [Act.put, List.setIfInBounds_toArray, List.set_cons_zero, List.set_cons_succ]
            refine wpAnyL_take 4 (v := ?_) rfl (by kernel_rfl) (fun _ _ _ h => h) (Or.inl ⟨by rfl, ?_⟩) (by assumption) ?_
            rotate_left
            · (intro w5 hSw; (try dsimp only at hSw); go_split_ands; go_simp; (try with_reducible rfl))
            try simp only [Act.put, List.setIfInBounds_toArray, List.set_cons_zero, List.set_cons_succ]
            refine wpAnyL_take 5 (v := ?_) rfl (by kernel_rfl) (fun _ _ _ h => h) (Or.inl ⟨by rfl, ?_⟩) (by assumption) ?_
            rotate_left
            · (intro w5 hSw; (try dsimp only at hSw); go_split_ands; go_simp; (try with_reducible rfl))
            try simp only [Act.put, List.setIfInBounds_toArray, List.set_cons_zero, List.set_cons_succ]
            refine wpAnyL_take 6 (v := ?_) rfl (by kernel_rfl) (fun _ _ _ h => h) (Or.inl ⟨by rfl, ?_⟩) (by assumption) ?_
            rotate_left
            · (intro w5 hSw; (try dsimp only at hSw); go_split_ands; go_simp; (try with_reducible rfl))
            try simp only [Act.put, List.setIfInBounds_toArray, List.set_cons_zero, List.set_cons_succ]
            refine wpAnyL_take 7 (v := ?_) rfl (by kernel_rfl) (fun _ _ _ h => h) (Or.inl ⟨by rfl, ?_⟩) (by assumption) ?_
            rotate_left
            · (intro w5 hSw; (try dsimp only at hSw); go_split_ands; go_simp; (try with_reducible rfl))
            try simp only [Act.put, List.setIfInBounds_toArray, List.set_cons_zero, List.set_cons_succ]
            refine wpAnyL_take 8 (v := ?_) rfl (by kernel_rfl) (fun _ _ _ h => h) (Or.inl ⟨by rfl, ?_⟩) (by assumption) ?_
            rotate_left
            · (intro w5 hSw; (try dsimp only at hSw); go_split_ands; go_simp; (try with_reducible rfl))
            try simp only [Act.put, List.setIfInBounds_toArray, List.set_cons_zero, List.set_cons_succ]
            refine wpAnyL_take 9 (v := ?_) rfl (by kernel_rfl) (fun _ _ _ h => h) (Or.inl ⟨by rfl, ?_⟩) (by assumption) ?_
            rotate_left
            · (intro w5 hSw; (try dsimp only at hSw); go_split_ands; go_simp; (try with_reducible rfl))
            try simp only [Act.put, List.setIfInBounds_toArray, List.set_cons_zero, List.set_cons_succ]
            refine wpAnyL_take 10 (v := ?_) rfl (by kernel_rfl) (fun _ _ _ h => h) (Or.inl ⟨by rfl, ?_⟩) (by assumption) ?_
            rotate_left
            · (intro w5 hSw; (try dsimp only at hSw); go_split_ands; go_simp; (try with_reducible rfl))
            try simp only [Act.put, List.setIfInBounds_toArray, List.set_cons_zero, List.set_cons_succ]
            refine wpAnyL_take 11 (v := ?_) rfl (by kernel_rfl) (fun _ _ _ h => h) (Or.inl ⟨by rfl, ?_⟩) (by assumption) ?_
            rotate_left
            · (intro w5 hSw; (try dsimp only at hSw); go_split_ands; go_simp; (try with_reducible rfl))
            try simp only [Act.put, List.setIfInBounds_toArray, List.set_cons_zero, List.set_cons_succ]
            refine wpAnyL_take 12 (v := ?_) rfl (by kernel_rfl) (fun _ _ _ h => h) (Or.inl ⟨by rfl, ?_⟩) (by assumption) ?_
            rotate_left
            · (intro w5 hSw; (try dsimp only at hSw); go_split_ands; go_simp; (try with_reducible rfl))
            try simp only [Act.put, List.setIfInBounds_toArray, List.set_cons_zero, List.set_cons_succ]
            refine wpAnyL_step 13 (by kernel_rfl) (by rfl) (fun K5 hK => ?_)
            go_simp
            refine hK.out _ _ ⟨cc' _, hgc' _⟩ (fun hS1 => ?_)
            clear hK K5
            try simp only [Act.put, List.setIfInBounds_toArray, List.set_cons_zero, List.set_cons_succ]
            refine wpAnyL_step 14 (by kernel_rfl) (by rfl) (fun K5 hK => ?_)
            refine step_que (v := .slice ga ql.length gc) (base := W.heap.size) rfl (.tmp 93) (.tmp 95) rfl (by simp [Act.eval]) HQ0.out (by have := HWS.out; simp; omega) hlen.out ⟨w4.heap.size, 0, none⟩ 1 T (by simp [Act.eval]) e1 ?_; intro v' w' ho hgr hat; obtain ⟨a', c', rfl, -⟩ := ho.form; have c1n := hgr.cell ccB.out (fun e => by have := HNE.out _ e.symm; have := HBW.out; simp at *; omega); have hc1 := hgr.cell (a := ⟨bp, k, none⟩) hcB.out HGN.out.symm; have hf1 : w'.frozen? ⟨bp, k, none⟩ = false := (World.frozen?_of_block (a := ⟨bp, k, none⟩) (hgr.block bp (by simp; have := hgl; omega) HGN.out.symm)).trans hfB.out
            refine hK.out _ _ ⟨c1n, hc1⟩ (fun hS2 => ?_)
            clear hK K5
            try simp only [Act.put, List.setIfInBounds_toArray, List.set_cons_zero, List.set_cons_succ]
            refine wpAnyL_take 15 (v := ?_) rfl (by kernel_rfl) (fun _ _ _ h => h) (Or.inl ⟨by rfl, ?_⟩) (by assumption) ?_
            rotate_left
            · (intro w5 hSw; (try dsimp only at hSw); go_split_ands; go_simp; (try with_reducible rfl))
            try simp only [Act.put, List.setIfInBounds_toArray, List.set_cons_zero, List.set_cons_succ]
            refine wpAnyL_end 16 (by kernel_rfl) (by rfl) (by kernel_rfl) (by kernel_rfl) (fun K5 hK => ?_)
            go_simp
            refine hK.out _ _ (NoPanic.normal ?_)
            clear hK K5
            rw [List.length_append, List.length_singleton] at ho hat
            have hm := (Mod.of_below hBd.out (Nat.le_refl _) (fun g => (Value.slice ga ql.length gc).ownBlock = some g)).trans (Mod.grown hgr (fun k hk => hk))
            obtain ⟨t1, -⟩ := HGT.out _ w' T ho hm (fun g hg => (hat g hg).imp id (fun h => by simp at h; omega))
            have HN1 := Lib.hid t1.swap
            clear hS0 hS1 hS2 t1 hm ho hgr hat hc1 hf1 c1n HGT HGN HQ0 hBd hcB hfB hgc hgf cc cc' hgc' e1 ccB
            generalize w'.setCell ⟨bp, k, none⟩ (.slice a' (ql.length + 1) c') = Z at *
            go_wp2
            go_roundg (gk - 1)
            case measure => omega
            case rel => exact ⟨i + 1, _, upd qp k (ql ++ [T]), qw, by omega, by omega, by simp, HN1.out, hgp.out, hsp.out, fun j hj => by
              by_cases hjk : j = k
              · subst hjk; rw [upd_same, List.length_append, ← HQL.out]; have := HL.out j hj; simp; omega
              · rw [upd_other hjk]; exact Nat.le_succ_of_le (HL.out j hj)⟩
          · have hps := put_no he
            rw [hps] at HP
            have heb : (putE s x1 T == 0) = false := beq_eq_false_iff_ne.2 he
            clear he hps
            generalize putE s x1 T = en at *
            go_wp2_with (go_at_call 11; refine HP.out.mono ?_; rintro e w4 ⟨rfl, hT4⟩; have N2 := Lib.hid hT4; clear hT4)
            go_roundg (gk - 1)
            case measure => omega
            case rel => exact ⟨i + 1, s, qp, qw, by omega, by omega, by simp, N2.out, HG.out, HS.out, fun j hj => Nat.le_succ_of_le (HL.out j hj)⟩
    · rw [decide_eq_false hlt]
      clear hlt
      go_wp2
      obtain ⟨WX, hWX⟩ : ∃ WX, WX = wc := ⟨_, rfl⟩
      rw [← hWX]
      rw [← hWX] at HT
      clear hWX
      go_loopg [10, 11] 6 (fun gj v10 v11 wr2 => ∃ (k : Nat) (R : Int), wr2 = WX ∧ k + gj = 6 ∧ v11 = .int .i64 (k : Int) ∧ v10 = .int .i64 R ∧ 0 ≤ R ∧ R ≤ 1000 ∧ ∀ j, j < k → bytes (s.q j) ≤ 80 * R)
      case atStart => exact ⟨0, 0, rfl, by omega, rfl, rfl, by omega, by omega, fun j hj => by omega⟩
      case round =>
        obtain ⟨k, R, rfl, hkg, rfl, rfl, hR0, hR1, hRj⟩ := hrel
        have HRJ := Lib.hid hRj
        clear hRj
        by_cases hk6 : k < 6
        · have hk6i : (k : Int) < 6 := by omega
          have HW := Lib.hid (te_waits (lk := k) HT.out HG.out)
          have hwe : waitsS s k = bytes (s.q k) := by simp only [waitsS, if_neg (show ¬ ((k : Int) < 0 ∨ 6 ≤ (k : Int)) by omega), Int.toNat_natCast]
          rw [hwe] at HW
          have hb0 := bytes_nonneg (s.q k)
          have hb1 := bytes_le (HG.out k hk6).1
          obtain ⟨m, hm⟩ : ∃ m, m = bytes (s.q k) := ⟨_, rfl⟩
          have HM := Lib.hid hm
          rw [← hm] at HW hb0 hb1
          clear hm hwe
          have hq0 : 0 ≤ (m + 80 - 1) / 80 := by omega
          have hq1 : (m + 80 - 1) / 80 ≤ 1000 := by omega
          have hq2 := Lib.hid (show m ≤ 80 * ((m + 80 - 1) / 80) by omega)
          have hq3 : 0 ≤ m + 80 - 1 := by omega
          by_cases hmx : R < (m + 80 - 1) / 80
          · have hmx2 : R ≤ (m + 80 - 1) / 80 := by omega
            go_wp2_with (go_at_call 16; refine HW.out.mono ?_; rintro e w9 ⟨rfl, rfl⟩)
            go_roundg (gk - 1)
            case measure => omega
            case rel => exact ⟨k + 1, (m + 80 - 1) / 80, rfl, by omega, by simp, rfl, by omega, by omega, fun j hj => by
              by_cases hjk : j = k
              · subst hjk; rw [← HM.out]; exact hq2.out
              · have := HRJ.out j (by omega); omega⟩
          · have hmx2 : (m + 80 - 1) / 80 ≤ R := by omega
            go_wp2_with (go_at_call 16; refine HW.out.mono ?_; rintro e w9 ⟨rfl, rfl⟩)
            go_roundg (gk - 1)
            case measure => omega
            case rel => exact ⟨k + 1, R, rfl, by omega, by simp, rfl, by omega, by omega, fun j hj => by
              by_cases hjk : j = k
              · subst hjk; rw [← HM.out]; have := hq2.out; omega
              · exact HRJ.out j (by omega)⟩
        · obtain rfl : k = 6 := by omega
          clear hk6
          obtain ⟨Rn, rfl⟩ : ∃ Rn : Nat, R = Rn := ⟨R.toNat, by omega⟩
          have hRn : Rn ≤ 1000 := by omega
          obtain ⟨Tf, hTf⟩ : ∃ Tf : Nat → Int, Tf = fun j => bytes (s.q j) := ⟨_, rfl⟩
          have HD0 := Lib.hid (hTf ▸ due_zero HG.out)
          have HRT := Lib.hid (show ∀ j, j < 6 → Tf j ≤ 80 * (Rn : Int) by rw [hTf]; exact HRJ.out)
          have HTF := Lib.hid (show ∀ j, Tf j = bytes (s.q j) by rw [hTf]; exact fun _ => rfl)
          clear hTf HRJ hR0 hR1
          go_wp2
          go_loopg [12, 13, 14] Rn (fun gj v12 _ _ wr3 => ∃ (i4 : Nat) (s4 : St) (qw4 : Nat → List BA), i4 + gj = Rn ∧ v12 = .int .i64 (i4 : Int) ∧ TE W wr3 (fun _ => False) p bp bw s4 qp qw4 ∧ Good s4 ∧ Same qp qw4 s4 ∧ Due Tf i4 s4 ∧ (i4 = 0 → s4 = s))
          case atStart => exact ⟨0, s, qw, by omega, rfl, HT.out, HG.out, HS.out, HD0.out, fun _ => rfl⟩
          case round =>
            obtain ⟨i4, s4, qw4, hi4, rfl, hT4, hg4, hs4, hd4, hz4⟩ := hrel
            obtain ⟨s0, hs0⟩ : ∃ s0, s0 = s := ⟨_, rfl⟩
            rw [← hs0] at HTF hz4
            clear hs0 HT HG HS HD0

            have HT := Lib.hid hT4
            have HG := Lib.hid hg4
            have HS := Lib.hid hs4
            have HD := Lib.hid hd4
            have HZ := Lib.hid hz4
            clear hT4 hg4 hs4 hd4 hz4
            by_cases hlt4 : i4 < Rn
            · have hli4 : (i4 : Int) < (Rn : Int) := by omega
              have hdr := Lib.hid (due_round HD.out)
              have hgr := Lib.hid (good_round HG.out)
              have hfl := Lib.hid (roundF_len HG.out)
              have hto := Lib.hid (fun x (hx : x ∈ roundF s4) => roundF_to (k := 6) x hx)
              have hsr := Lib.hid (same_round HS.out)
              have hqwl := Lib.hid (show ∀ j, j < 6 → (qw4 j).length ≤ 24 from fun j hj => by have h1 := HL.out j hj; rw [HS.out j hj, List.length_append] at h1; omega)
              have h1 := Lib.hid (te_round HT.out HG.out)
              generalize roundF s4 = fl at *
              generalize roundS s4 = s2 at *
              go_wp2_with (go_at_call 9; refine h1.out.mono ?_; rintro e w3 ⟨v1, rfl, ho1, hT1, hsz1⟩; obtain ⟨va, vc, rfl, -⟩ := ho1.sli EF; have HT1 := Lib.hid (hT1.less (F1 := fun k => (Value.slice va fl.length vc).ownBlock = some k) (fun k hk => .inr hk)); have HO1 := Lib.hid (ho1.mono (base' := W.heap.size) (Nat.le_trans HT.out.bel.size (Nat.le_refl _))); clear ho1 hT1)
              clear h1 HT
              have hfn24 := hfl.out
              generalize hfn : fl.length = fn at *
              have HFN := Lib.hid hfn
              clear hfn
              go_loopg [14] fn (fun gq v14 wr2 => ∃ k : Nat, k + gq = fn ∧ v14 = .int .i64 (k : Int) ∧ TE W wr2 (fun g => (Value.slice va fn vc).ownBlock = some g) p bp bw s2 qp (addTo qw4 (fl.take k)) ∧ OwnL encF 3 46 wr2 W.heap.size (.slice va fn vc) fl)
              case atStart => exact ⟨0, by omega, rfl, by simpa [addTo_nil] using HT1.out, HO1.out⟩
              case round =>
                obtain ⟨k, hkq, rfl, hT2, hO2⟩ := hrel
                have HO2 := Lib.hid hO2
                clear HT1 HO1
                by_cases hlk : k < fn
                · have hlki : (k : Int) < (fn : Int) := by omega
                  have hkl : k < fl.length := by have := HFN.out; omega
                  have HTK := Lib.hid (addTo_take qw4 hkl)
                  obtain ⟨va', vc', ev, hsl, -⟩ := hO2.sli EF
                  simp at ev
                  obtain ⟨rfl, -, rfl⟩ := ev
                  obtain ⟨bb, oo, rfl, hcc⟩ := hsl.lst k hkl
                  obtain ⟨d0, d1, d2⟩ := fr_cells hcc
                  have hx6 := hto.out (fl.getD k default) (by rw [List.getD_eq_getElem?_getD, List.getElem?_eq_getElem hkl]; exact List.getElem_mem hkl)
                  have hlen := Lib.hid (show (addTo qw4 (fl.take k) (fl.getD k default).1).length ≤ 1000000 by
                    have h1 := hqwl.out _ hx6
                    have h2 : ((fl.take k).filter fun x => x.1 == (fl.getD k default).1).length ≤ (fl.take k).length := List.length_filter_le _ _
                    simp only [addTo, List.length_append, List.length_map, List.length_take] at h2 ⊢
                    omega)
                  clear hcc d0 hsl
                  generalize fl.getD k default = y at *
                  obtain ⟨y1, y2⟩ := y
                  simp only at d1 d2 hx6
                  obtain ⟨ga, gc, hgc, hgf, hgq, hgn, hgl, hgo, hgt⟩ := hT2.went hx6
                  have HNE := Lib.hid (hgo bb rfl)
                  clear hgo
                  have e1 := cell_one_new wr (.string y2) 9 0 (.string y2) rfl
                  rw [Go.WideShapes.add_plain, Nat.zero_add] at e1
                  have hBd := Lib.hid ((Below.refl _ wr).drew.alloc (Nat.le_refl _) (.cells #[.string y2] 9))
                  have HQ0 := Lib.hid (hgq.below hBd.out)
                  have hcB := Lib.hid ((hBd.out.cell (p := ⟨bw, y1, none⟩) hgl).trans hgc)
                  have hfB := Lib.hid ((hBd.out.frozen (p := ⟨bw, y1, none⟩) hgl).trans hgf)
                  have hgc' : ∀ o, (wr.alloc o).cell? ⟨bw, y1, none⟩ = _ := fun o => ((bel1 wr o).cell (p := ⟨bw, y1, none⟩) hgl).trans hgc
                  have d1' := fun o => keepc d1 (bel1 wr o)
                  have d2' := fun o => keepc d2 (bel1 wr o)
                  have dd1 := Lib.hid (keepc d1 hBd.out)
                  have dd2 := Lib.hid (keepc d2 hBd.out)
                  have HGN := Lib.hid hgn
                  have HGT := Lib.hid hgt
                  have HWS := Lib.hid hT2.bel.size
                  have hy6 : (y1 : Int) < 6 := by omega
                  have HX6 := Lib.hid hx6
                  clear hgq hgn hgt hT2 hO2
                  generalize addTo qw4 (fl.take k) y1 = ql at *
                  go_upto_region 29 with fail
                  refine wp_region_noPanic ?_
                  refine wp_region_last (fun w' => w'.cell? ⟨bb, oo + k * 3 + 1, none⟩ = some (.int .i64 (y1 : Int)) ∧ w'.cell? ⟨bb, oo + k * 3 + 2, none⟩ = some (.string y2) ∧ w'.cell? ⟨bw, y1, none⟩ = some (.slice ga ql.length gc)) (by kernel_rfl) ⟨d1, d2, hgc⟩ (fun hS0 => ?_)
                  refine wpAnyL_take 0 (v := ?_) rfl (by kernel_rfl) (fun _ _ _ h => h) (Or.inl ⟨by rfl, ?_⟩) (by assumption) ?_
                  rotate_left
                  · (intro w5 hSw; (try dsimp only at hSw); go_split_ands; go_simp; (try with_reducible rfl))
                  try simp only [Act.put, List.setIfInBounds_toArray, List.set_cons_zero, List.set_cons_succ]
                  refine wpAnyL_take 1 (v := ?_) rfl (by kernel_rfl) (fun _ _ _ h => h) (Or.inl ⟨by rfl, ?_⟩) (by assumption) ?_
                  rotate_left
                  · (intro w5 hSw; (try dsimp only at hSw); go_split_ands; go_simp; (try with_reducible rfl))
                  try simp only [Act.put, List.setIfInBounds_toArray, List.set_cons_zero, List.set_cons_succ]
                  refine wpAnyL_take 2 (v := ?_) rfl (by kernel_rfl) (fun _ _ _ h => h) (Or.inl ⟨by rfl, ?_⟩) (by assumption) ?_
                  rotate_left
                  · (intro w5 hSw; (try dsimp only at hSw); go_split_ands; go_simp; (try with_reducible rfl))
                  try simp only [Act.put, List.setIfInBounds_toArray, List.set_cons_zero, List.set_cons_succ]
                  refine wpAnyL_take 3 (v := ?_) rfl (by kernel_rfl) (fun _ _ _ h => h) (Or.inl ⟨by rfl, ?_⟩) (by assumption) ?_
                  rotate_left
                  · (intro w5 hSw; (try dsimp only at hSw); go_split_ands; go_simp; (try with_reducible rfl))
                  try simp only [Act.put, List.setIfInBounds_toArray, List.set_cons_zero, List.set_cons_succ]
                  refine wpAnyL_take 4 (v := ?_) rfl (by kernel_rfl) (fun _ _ _ h => h) (Or.inl ⟨by rfl, ?_⟩) (by assumption) ?_
                  rotate_left
                  · (intro w5 hSw; (try dsimp only at hSw); go_split_ands; go_simp; (try with_reducible rfl))
                  try simp only [Act.put, List.setIfInBounds_toArray, List.set_cons_zero, List.set_cons_succ]
                  refine wpAnyL_take 5 (v := ?_) rfl (by kernel_rfl) (fun _ _ _ h => h) (Or.inl ⟨by rfl, ?_⟩) (by assumption) ?_
                  rotate_left
                  · (intro w5 hSw; (try dsimp only at hSw); go_split_ands; go_simp; (try with_reducible rfl))
                  try simp only [Act.put, List.setIfInBounds_toArray, List.set_cons_zero, List.set_cons_succ]
                  refine wpAnyL_take 6 (v := ?_) rfl (by kernel_rfl) (fun _ _ _ h => h) (Or.inl ⟨by rfl, ?_⟩) (by assumption) ?_
                  rotate_left
                  · (intro w5 hSw; (try dsimp only at hSw); go_split_ands; go_simp; (try with_reducible rfl))
                  try simp only [Act.put, List.setIfInBounds_toArray, List.set_cons_zero, List.set_cons_succ]
                  refine wpAnyL_take 7 (v := ?_) rfl (by kernel_rfl) (fun _ _ _ h => h) (Or.inl ⟨by rfl, ?_⟩) (by assumption) ?_
                  rotate_left
                  · (intro w5 hSw; (try dsimp only at hSw); go_split_ands; go_simp; (try with_reducible rfl))
                  try simp only [Act.put, List.setIfInBounds_toArray, List.set_cons_zero, List.set_cons_succ]
                  refine wpAnyL_take 8 (v := ?_) rfl (by kernel_rfl) (fun _ _ _ h => h) (Or.inl ⟨by rfl, ?_⟩) (by assumption) ?_
                  rotate_left
                  · (intro w5 hSw; (try dsimp only at hSw); go_split_ands; go_simp; (try with_reducible rfl))
                  try simp only [Act.put, List.setIfInBounds_toArray, List.set_cons_zero, List.set_cons_succ]
                  refine wpAnyL_take 9 (v := ?_) rfl (by kernel_rfl) (fun _ _ _ h => h) (Or.inl ⟨by rfl, ?_⟩) (by assumption) ?_
                  rotate_left
                  · (intro w5 hSw; (try dsimp only at hSw); go_split_ands; go_simp; (try with_reducible rfl))
                  try simp only [Act.put, List.setIfInBounds_toArray, List.set_cons_zero, List.set_cons_succ]
                  refine wpAnyL_take 10 (v := ?_) rfl (by kernel_rfl) (fun _ _ _ h => h) (Or.inl ⟨by rfl, ?_⟩) (by assumption) ?_
                  rotate_left
                  · (intro w5 hSw; (try dsimp only at hSw); go_split_ands; go_simp; (try with_reducible rfl))
                  try simp only [Act.put, List.setIfInBounds_toArray, List.set_cons_zero, List.set_cons_succ]
                  refine wpAnyL_take 11 (v := ?_) rfl (by kernel_rfl) (fun _ _ _ h => h) (Or.inl ⟨by rfl, ?_⟩) (by assumption) ?_
                  rotate_left
                  · (intro w5 hSw; (try dsimp only at hSw); go_split_ands; go_simp; (try with_reducible rfl))
                  try simp only [Act.put, List.setIfInBounds_toArray, List.set_cons_zero, List.set_cons_succ]
                  refine wpAnyL_take 12 (v := ?_) rfl (by kernel_rfl) (fun _ _ _ h => h) (Or.inl ⟨by rfl, ?_⟩) (by assumption) ?_
                  rotate_left
                  · (intro w5 hSw; (try dsimp only at hSw); go_split_ands; go_simp; (try with_reducible rfl))
                  try simp only [Act.put, List.setIfInBounds_toArray, List.set_cons_zero, List.set_cons_succ]
                  refine wpAnyL_take 13 (v := ?_) rfl (by kernel_rfl) (fun _ _ _ h => h) (Or.inl ⟨by rfl, ?_⟩) (by assumption) ?_
                  rotate_left
                  · (intro w5 hSw; (try dsimp only at hSw); go_split_ands; go_simp; (try with_reducible rfl))
                  try simp only [Act.put, List.setIfInBounds_toArray, List.set_cons_zero, List.set_cons_succ]
                  refine wpAnyL_take 14 (v := ?_) rfl (by kernel_rfl) (fun _ _ _ h => h) (Or.inl ⟨by rfl, ?_⟩) (by assumption) ?_
                  rotate_left
                  · (intro w5 hSw; (try dsimp only at hSw); go_split_ands; go_simp; (try with_reducible rfl))
                  try simp only [Act.put, List.setIfInBounds_toArray, List.set_cons_zero, List.set_cons_succ]
                  refine wpAnyL_take 15 (v := ?_) rfl (by kernel_rfl) (fun _ _ _ h => h) (Or.inl ⟨by rfl, ?_⟩) (by assumption) ?_
                  rotate_left
                  · (intro w5 hSw; (try dsimp only at hSw); go_split_ands; go_simp; (try with_reducible rfl))
                  try simp only [Act.put, List.setIfInBounds_toArray, List.set_cons_zero, List.set_cons_succ]
                  refine wpAnyL_take 16 (v := ?_) rfl (by kernel_rfl) (fun _ _ _ h => h) (Or.inl ⟨by rfl, ?_⟩) (by assumption) ?_
                  rotate_left
                  · (intro w5 hSw; (try dsimp only at hSw); go_split_ands; go_simp; (try with_reducible rfl))
                  try simp only [Act.put, List.setIfInBounds_toArray, List.set_cons_zero, List.set_cons_succ]
                  refine wpAnyL_step 17 (by kernel_rfl) (by rfl) (fun K5 hK => ?_)
                  go_simp
                  refine hK.out _ _ ⟨d1' _, d2' _, hgc' _⟩ (fun hS1 => ?_)
                  clear hK K5
                  try simp only [Act.put, List.setIfInBounds_toArray, List.set_cons_zero, List.set_cons_succ]
                  refine wpAnyL_step 18 (by kernel_rfl) (by rfl) (fun K5 hK => ?_)
                  refine step_que (v := .slice ga ql.length gc) (base := W.heap.size) rfl (.tmp 134) (.tmp 140) rfl (by simp [Act.eval]) HQ0.out (by have := HWS.out; simp; omega) hlen.out ⟨wr.heap.size, 0, none⟩ 1 y2 (by simp [Act.eval]) e1 ?_; intro v' w' ho hgr hat; obtain ⟨a', c', rfl, -⟩ := ho.form; have d1n := hgr.cell dd1.out HNE.out.symm; have d2n := hgr.cell dd2.out HNE.out.symm; have hc1 := hgr.cell (a := ⟨bw, y1, none⟩) hcB.out HGN.out.symm; have hf1 : w'.frozen? ⟨bw, y1, none⟩ = false := (World.frozen?_of_block (a := ⟨bw, y1, none⟩) (hgr.block bw (by simp; have := hgl; omega) HGN.out.symm)).trans hfB.out
                  refine hK.out _ _ ⟨d1n, d2n, hc1⟩ (fun hS2 => ?_)
                  clear hK K5
                  try simp only [Act.put, List.setIfInBounds_toArray, List.set_cons_zero, List.set_cons_succ]
                  refine wpAnyL_take 19 (v := ?_) rfl (by kernel_rfl) (fun _ _ _ h => h) (Or.inl ⟨by rfl, ?_⟩) (by assumption) ?_
                  rotate_left
                  · (intro w5 hSw; (try dsimp only at hSw); go_split_ands; go_simp; (try with_reducible rfl))
                  try simp only [Act.put, List.setIfInBounds_toArray, List.set_cons_zero, List.set_cons_succ]
                  refine wpAnyL_end 20 (by kernel_rfl) (by rfl) (by kernel_rfl) (by kernel_rfl) (fun K5 hK => ?_)
                  go_simp
                  refine hK.out _ _ (NoPanic.normal ?_)
                  clear hK K5
                  rw [List.length_append, List.length_singleton] at ho hat
                  have hm := (Mod.of_below hBd.out (Nat.le_refl _) (fun g => (Value.slice ga ql.length gc).ownBlock = some g)).trans (Mod.grown hgr (fun k hk => hk))
                  obtain ⟨t1, S, t2, t3⟩ := HGT.out _ w' y2 ho hm (fun g hg => (hat g hg).imp id (fun h => by simp at h; omega))
                  have HN1 := Lib.hid t1
                  have HN2 := Lib.hid (HO2.out.mod t2 (fun g hg => t3 g hg))
                  clear hS0 hS1 hS2 dd2 d2n t1 t2 t3 hm ho hgr hat hc1 hf1 d1n HGT HGN HQ0 hBd hcB hfB hgc hgf d1 d2 d1' d2' hgc' e1 dd1 HO2
                  generalize w'.setCell ⟨bw, y1, none⟩ (.slice a' (ql.length + 1) c') = Z at *
                  go_wp2
                  go_roundg (gk - 1)
                  case measure => omega
                  case rel => exact ⟨k + 1, by omega, by simp, by rw [HTK.out]; exact HN1.out, HN2.out⟩
                · have hge : (fn : Int) ≤ (k : Int) := by omega
                  obtain rfl : k = fn := by omega
                  have hall := Lib.hid (show addTo qw4 (fl.take k) = addTo qw4 fl by rw [List.take_of_length_le (by have := HFN.out; omega)])
                  have HN1 := Lib.hid (hT2.less (F1 := fun _ => False) (fun _ c => c.elim))
                  clear hT2 hO2 HO2 hlk
                  go_wp2
                  go_roundg (Rn - i4 - 1)
                  case measure => omega
                  case rel => exact ⟨i4 + 1, s2, addTo qw4 fl, by omega, by simp, by rw [← hall.out]; exact HN1.out, hgr.out, hsr.out, hdr.out, fun h => by omega⟩
            · obtain rfl : i4 = Rn := by omega
              clear hlt4
              have hE := due_end HD.out HG.out (fun j hj => HRT.out j hj) (fun h0 j hj => by rw [HZ.out h0]; exact HTF.out j)
              obtain ⟨er1, er2⟩ := empty_round hE
              have HSS := Lib.hid (show ∀ j, j < 6 → qp j = qw4 j from fun j hj => by have := HS.out j hj; rwa [hE j hj, List.append_nil] at this)
              have HLn := Lib.hid (te_len HT.out HG.out)
              rw [er2] at HLn
              have HR := Lib.hid (fun (V : World) (h : TE W V (fun _ => False) p bp bw s4 qp qw4) => te_round h HG.out)
              rw [er1] at HR
              have HEL := Lib.hid (show ∀ j, j < 6 → (qp j).length ≤ 24 from fun j hj => Nat.le_trans (HL.out j hj) hi24)
              clear hE er1 er2
              generalize roundS s4 = s5 at *
              go_wp2_with (first
                | (go_at_call 14; refine HLn.out.mono ?_; rintro e w5 ⟨rfl, hb⟩; have N1 := Lib.hid (HT.out.below hb); clear hb)
                | (go_at_call 9; refine (HR.out _ N1.out).mono ?_; rintro e w6 ⟨v, rfl, hov, hT6, -⟩; obtain ⟨va, vc, rfl, -⟩ := hov.sli EF; have N2 := Lib.hid (hT6.less (F1 := fun _ => False) (fun _ c => c.elim)); clear hov hT6 N1))
              clear HT HLn HR
              obtain ⟨WY, hWY⟩ : ∃ WY, WY = w6 := ⟨_, rfl⟩
              rw [← hWY]
              rw [← hWY] at N2
              clear hWY
              go_loopg [15, 16] 6 (fun gj v15 _ wr5 => ∃ k : Nat, (∃ m, wr5 = WY.drewN m) ∧ k + gj = 6 ∧ v15 = .int .i64 (k : Int))
              case atStart => exact ⟨0, ⟨0, rfl⟩, by omega, rfl⟩
              case round =>
                obtain ⟨k, ⟨dm, hdm⟩, hkg, rfl⟩ := hrel
                have HDM := Lib.hid hdm
                clear hdm
                by_cases hk6 : k < 6
                · have hk6i : (k : Int) < 6 := by omega
                  have hcw : ∀ q, wr.cell? q = WY.cell? q := fun q => by rw [HDM.out]; rfl
                  obtain ⟨ga, gc, hgc, -, hgq, -, -, -, -⟩ := N2.out.went hk6
                  obtain ⟨pa, pc, hpc, -, hpq, -, -, -, -⟩ := N2.out.swap.went hk6
                  have hqq := HSS.out k hk6
                  rw [← hqq] at hgc hgq
                  have hl24 := HEL.out k hk6
                  obtain ⟨_, _, ev1, -, -, -, hel1⟩ := hgq.form
                  obtain ⟨_, _, ev2, -, -, -, hel2⟩ := hpq.form
                  simp at ev1 ev2
                  obtain ⟨rfl, rfl⟩ := ev1
                  obtain ⟨rfl, rfl⟩ := ev2
                  have HE1 := Lib.hid hel1
                  have HE2 := Lib.hid hel2
                  clear hgq hpq hel1 hel2 hqq
                  generalize hql : qp k = ql at *
                  clear hql
                  generalize hln : ql.length = ln at *
                  have HLN := Lib.hid hln
                  clear hln
                  have hnn : ((ln : Int) != (ln : Int)) = false := by simp
                  have hln24 : (ln : Int) ≤ 24 := by omega
                  have HGC := Lib.hid hgc
                  have HPC := Lib.hid hpc
                  rw [← hcw] at hgc hpc
                  clear hcw
                  go_wp2
                  go_quiet (fail)
                  go_wp2
                  clear hgc hpc
                  go_loopg [16] ln (fun gq v16 wr6 => ∃ m : Nat, (∃ dq, wr6 = WY.drewN dq) ∧ m + gq = ln ∧ v16 = .int .i64 (m : Int))
                  case atStart => exact ⟨0, ⟨dm + nq, by rw [HDM.out, World.drewN_drewN]⟩, by omega, rfl⟩
                  case round =>
                    obtain ⟨m, ⟨dq, hdq⟩, hmq, rfl⟩ := hrel
                    have hcw : ∀ q, wr.cell? q = WY.cell? q := fun q => by rw [hdq]; rfl
                    have HDQ := Lib.hid hdq
                    clear hdq
                    have hpc := HPC.out
                    have hgc := HGC.out
                    rw [← hcw] at hpc hgc
                    by_cases hml : m < ln
                    · have hmli : (m : Int) < (ln : Int) := by omega
                      have hmq2 : m < ql.length := by have := HLN.out; omega
                      obtain ⟨u, hu⟩ : ∃ u, ql[m]? = some u := ⟨_, List.getElem?_eq_getElem hmq2⟩
                      obtain ⟨b1, o1, rfl, -, -, x1⟩ := HE1.out m u hu
                      obtain ⟨b2, o2, rfl, -, -, x2⟩ := HE2.out m u hu
                      rw [← hcw] at x1 x2
                      clear hcw hu hmq2
                      go_wp2
                      go_quiet (fail)
                      go_wp2
                      go_roundg (gk - 1)
                      case measure => omega
                      case rel => exact ⟨m + 1, ⟨dq + nq, by rw [HDQ.out, World.drewN_drewN]⟩, by omega, by simp⟩
                    · have hge : (ln : Int) ≤ (m : Int) := by omega
                      clear hml hcw
                      go_wp2
                      go_roundg (6 - k - 1)
                      case measure => omega
                      case rel => exact ⟨k + 1, ⟨dq, HDQ.out⟩, by omega, by simp⟩
                · obtain rfl : k = 6 := by omega
                  clear hk6
                  go_wp2_with (go_at_call 18; refine (works_any _).mono ?_; rintro e w9 ⟨rfl, hb⟩)
                  go_ret
                  exact retB rfl (grew_trans N2.out.bel (grew_trans (HDM.out ▸ below_drewN (Below.refl _ _) dm) hb))
end Go.Proofs.Ytkojjnkohnokoaa
