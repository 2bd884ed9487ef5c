/- The power comes back. -/
import Derived.Test.YtcgkdomfbkkboaaWakeP
import Derived.Test.YtcgkdomfbkkboaaLastIn
namespace Go.Proofs.Ytcgkdomfbkkboaa
open Go.RowKit Go.Joins Go.ChangeMaps Go.Shelf
attribute [local go_sem] Oper.semAt_some

theorem back_in (n : Nat) (a : Option Addr) (m c : Nat) (w : World) :
    CallsIn Fence.wide n Try.prog 38 #[.slice a m c] w fun e w' => e = .returned (.func (.func 50) #[] #[.pointer (some ⟨w.heap.size, 0, none⟩)]) ∧ w' = w.alloc (.cells #[.slice a m c] 59) := by
  refine callsIn_of_wp Try.func38 rfl trivial ?_ rfl
  simp only [Try.ntmps38, List.size_toArray, List.length_cons, List.length_nil, Nat.reduceAdd, Nat.reduceSub, Array.replicate_succ, Array.replicate_zero, List.push_toArray, List.append_toArray, List.nil_append, List.cons_append]
  gi_wp2
  go_ret
  exact ⟨rfl, rfl⟩
theorem cell_new (w : World) (c : Array Value) (t : TypeId) (i : Nat) {u : Value} (h : c[i]? = some u) : (w.alloc (.cells c t)).cell? ⟨w.heap.size, i, none⟩ = some u := by
  rw [World.cell?_alloc_at _ _ _ _ rfl]; exact h
set_option linter.unusedSimpArgs false in
set_option maxHeartbeats 4000000 in
set_option maxRecDepth 100000 in
theorem wake_any {w : World} {base p bm : Nat} {v : Value} {s : St} (ka : Option Addr) (kc : Nat) (ks : List Bool) (h : PD w base p bm v s) (hg : Good s) (hl : s.more.length ≤ 1000000) (hk : Lst encK 1 w ka ks) :
    Calls Try.prog 20 #[.pointer (some ⟨p, 0, none⟩), .slice ka ks.length kc] w (Tup0 (PUpd base p bm v (wakeS s ks) w)) := by
  have hP := Lib.hid h
  by_cases ho : s.off = true
  · have hs := state_off (h.below (bel1 w (.cells #[.pointer (some ⟨p, 0, none⟩)] 24))) ho
    have hW : wakeS s ks = { s with base := apply s.base (kept s.more ks), more := [], off := false } := by unfold wakeS; rw [if_pos ho]
    rw [hW]
    obtain ⟨⟨g0, g1, -, -, -, g5⟩, gf⟩ := h.cells
    obtain ⟨ua, uc, hv, hsl, -⟩ := h.own.sli EB
    have hul : s.undo.length = s.more.length := undoOf_length _ _
    have HSl := Lib.hid hsl
    have HG := Lib.hid hg
    have HK := Lib.hid hk
    rw [hv, hul] at g1
    have HUL := Lib.hid hul
    have hplt := (h.lt p (.inl rfl)).2
    have hblt := (h.lt bm (.inr (.inl rfl))).2
    clear hsl hul h hg hk hW
    have HMoreG := Lib.hid (fun k (hk : k < s.more.length) => undoOf_getD s.base s.more k hk)
    generalize hn : s.more.length = n at *
    have HN := Lib.hid hn
    generalize hkn : ks.length = kn at *
    have HKN := Lib.hid hkn
    clear hn hkn
    have hB0 := Lib.hid (bel1 w (.cells #[.pointer (some ⟨p, 0, none⟩)] 24))
    refine callsIn_wide (n := 3) |>.1 ?_
    refine callsIn_of_wp_marks Try.func20 rfl trivial ?_ rfl
    simp only [Try.ntmps20, List.size_toArray, List.length_cons, List.length_nil, Nat.reduceAdd, Nat.reduceSub, Array.replicate_succ, Array.replicate_zero, List.push_toArray, List.append_toArray, List.nil_append, List.cons_append]
    refine wpIn_wide.2 ?_
    have hmm := @run_makeMap Try.prog
    go_wp2_with (go_at_call 30; refine hs.mono ?_; rintro e w1 ⟨rfl, rfl⟩)
    obtain ⟨W0, hW0⟩ : ∃ W0, W0 = (w.alloc (.cells #[.pointer (some ⟨p, 0, none⟩)] 24)).alloc (.map #[] 0) := ⟨_, rfl⟩
    have hbel : Below w.heap.size w W0 := by rw [hW0]; exact grew_trans (bel1 _ _) (bel1 _ _)
    have hsz0 : W0.heap.size = w.heap.size + 2 := by rw [hW0]; simp
    have hbx0 : W0.cell? ⟨w.heap.size, 0, none⟩ = some (.pointer (some ⟨p, 0, none⟩)) := by
      rw [hW0]; exact keepc' (cell_new w _ _ 0 rfl) (bel1 _ _)
    have hm0 : MapAt ES W0 (w.heap.size + 1) 0 none0 := by
      have := map_made ES (w.alloc (.cells #[.pointer (some ⟨p, 0, none⟩)] 24))
      rw [World.size_alloc] at this
      rw [hW0]; exact this
    rw [← hW0]
    have HBEL := Lib.hid hbel
    have HBX0 := Lib.hid hbx0
    have HM0 := Lib.hid hm0
    have HP0 := Lib.hid (hP.out.below hbel)
    clear hW0 hbel hm0 hs hmm hbx0 g0 g5 gf g1
    go_loopg [5, 6, 18] n (fun gk _ _ v18 wr => ∃ i nl : Nat, i + gk = n ∧ v18 = .int .i64 (i : Int) ∧ Mod (fun k => k = w.heap.size + 1) W0 wr ∧ MapAt ES wr (w.heap.size + 1) nl (apply none0 (kept (s.more.take i) ks)) ∧ nl ≤ i)
    case atStart => exact ⟨0, 0, by omega, rfl, Mod.refl _ _, HM0.out, by omega⟩
    case round =>
      obtain ⟨i, nl, hin, rfl, hM, hA, hnl⟩ := hrel
      have HM := Lib.hid hM
      have HA := Lib.hid hA
      have hPr : PD wr base p bm v s := HP0.out.mod hM (fun k hk => by have := (hP.out.lt k hk).2; omega)
      have HPR := Lib.hid hPr
      have b0 := hM.cell HBX0.out (by simp)
      obtain ⟨⟨r0, r1, -, -, -, r5⟩, rf⟩ := hPr.cells
      rw [hv, HUL.out] at r1
      by_cases hlt : i < n
      · have hli : (i : Int) < (n : Int) := by omega
        obtain ⟨ub, uo, rfl, hc⟩ := HSl.out.lst i (by have := HUL.out; omega)
        have hubl := World.block_lt_of_cell? _ _ (bf_cells hc).1
        have hsame : Mod (fun k => k = w.heap.size + 1) w wr := ((Mod.belowAll HBEL.out).mono (fun _ _ c => c.elim)).trans hM
        obtain ⟨d0, d1, d2⟩ := bf_cells (hc.mod hsame (by simp at hubl; omega))
        rw [show s.undo.getD i default = _ from HMoreG.out i hlt] at d0 d1 d2
        simp only at d0 d1 d2
        have HYES := Lib.hid (kept_yes s.more ks i (by have := HN.out; omega))
        have HNO := Lib.hid (kept_no s.more ks i (by have := HN.out; omega))
        have hXB := Lib.hid (bel1 wr (.cells #[.int .i64 (s.more.getD i default).1, .string ((apply s.base (List.take i s.more) (s.more.getD i default).fst).getD ByteArray.empty), .bool (apply s.base (List.take i s.more) (s.more.getD i default).fst).isSome] 70))
        have q1 := (keepc' b0 hXB.out)
        have HPX := Lib.hid (HPR.out.below (hXB.out.drew))
        have HWR := Lib.hid (written_any i HPX.out HG.out (by have := HN.out; omega) (by have := HN.out; omega))
        have hmi := HG.out.more (s.more.getD i default) (by rw [List.getD_eq_getElem?_getD, List.getElem?_eq_getElem (by have := HN.out; omega)]; exact List.getElem_mem _)
        generalize (apply s.base (List.take i s.more) (s.more.getD i default).fst).getD ByteArray.empty = x2 at *
        generalize (apply s.base (List.take i s.more) (s.more.getD i default).fst).isSome = x3 at *
        generalize s.more.getD i default = x at *
        obtain ⟨x1, xd⟩ := x
        simp only at d0 d1 d2 HWR hmi
        have q0 := cell_new wr #[.int .i64 x1, .string x2, .bool x3] 70 0 rfl
        clear hc hubl hsame hM hA hPr r0 r1 r5 rf b0
        by_cases hkk : i < kn ∧ ks.getD i false = true
        · obtain ⟨hk1, hk2⟩ := hkk
          have hki : (i : Int) < (kn : Int) := by omega
          obtain ⟨kb, ko, rfl, hkc⟩ := HK.out i (by have := HKN.out; omega)
          have kc0 : w.cell? ⟨kb, ko + i * 1 + 0, none⟩ = some (.bool (ks.getD i false)) := hkc 0 _ rfl
          rw [hk2] at kc0
          have HY := Lib.hid (HYES.out (by have := HKN.out; omega) hk2)
          have kc1 : wr.cell? ⟨kb, ko + i, none⟩ = some (.bool true) := by
            have := ((((Mod.belowAll HBEL.out).mono (fun _ _ c => c.elim)).trans HM.out : Mod (fun k => k = w.heap.size + 1) w wr)).cell kc0 (by have := World.block_lt_of_cell? _ _ kc0; simp at this; show ¬ kb = _; omega)
            simpa using this
          have kc2 := fun o => keepc' kc1 (bel1 wr o)
          clear kc0 hkc HYES HNO hk1 hk2 kc1
          go_upto_region 7 with fail
          refine wp_region_noPanic ?_
          refine wp_region_last (fun w' => w'.cell? ⟨wr.heap.size, 0, none⟩ = some (.int .i64 x1) ∧ w'.cell? ⟨w.heap.size, 0, none⟩ = some (.pointer (some ⟨p, 0, none⟩))) (by kernel_rfl) ⟨q0, q1⟩ (fun hS0 => ?_)
          refine wpAnyL_take 0 (v := ?_) rfl (by kernel_rfl) (fun _ _ _ h => h) (Or.inl ⟨by rfl, ?_⟩) (by assumption) ?_
          rotate_left
          · (intro w5 hSw; (try dsimp only at hSw); go_split_ands; go_simp; (try with_reducible rfl))
          try simp only [Act.put, List.setIfInBounds_toArray, List.set_cons_zero, List.set_cons_succ]
          refine wpAnyL_take 1 (v := ?_) rfl (by kernel_rfl) (fun _ _ _ h => h) (Or.inl ⟨by rfl, ?_⟩) (by assumption) ?_
          rotate_left
          · (intro w5 hSw; (try dsimp only at hSw); go_split_ands; go_simp; (try with_reducible rfl))
          try simp only [Act.put, List.setIfInBounds_toArray, List.set_cons_zero, List.set_cons_succ]
          refine wpAnyL_take 2 (v := ?_) rfl (by kernel_rfl) (fun _ _ _ h => h) (Or.inl ⟨by rfl, ?_⟩) (by assumption) ?_
          rotate_left
          · (intro w5 hSw; (try dsimp only at hSw); go_split_ands; go_simp; (try with_reducible rfl))
          try simp only [Act.put, List.setIfInBounds_toArray, List.set_cons_zero, List.set_cons_succ]
          refine wpAnyL_take 3 (v := ?_) rfl (by kernel_rfl) (fun _ _ _ h => h) (Or.inl ⟨by rfl, ?_⟩) (by assumption) ?_
          rotate_left
          · (intro w5 hSw; (try dsimp only at hSw); go_split_ands; go_simp; (try with_reducible rfl))
          try simp only [Act.put, List.setIfInBounds_toArray, List.set_cons_zero, List.set_cons_succ]
          refine wpAnyL_take 4 (v := ?_) rfl (by kernel_rfl) (fun _ _ _ h => h) (Or.inl ⟨by rfl, ?_⟩) (by assumption) ?_
          rotate_left
          · (intro w5 hSw; (try dsimp only at hSw); go_split_ands; go_simp; (try with_reducible rfl))
          try simp only [Act.put, List.setIfInBounds_toArray, List.set_cons_zero, List.set_cons_succ]
          refine wpAnyL_take 5 (v := ?_) rfl (by kernel_rfl) (fun _ _ _ h => h) (Or.inl ⟨by rfl, ?_⟩) (by assumption) ?_
          rotate_left
          · (intro w5 hSw; (try dsimp only at hSw); go_split_ands; go_simp; (try with_reducible rfl))
          try simp only [Act.put, List.setIfInBounds_toArray, List.set_cons_zero, List.set_cons_succ]
          refine wpAnyL_step 6 (by kernel_rfl) (by rfl) (fun K5 hK => ?_)
          go_simp
          go_at_call 37
          refine HWR.out.mono ?_
          rintro e w6 ⟨rfl, hb6⟩
          dsimp only
          have HB6 := Lib.hid (grew_trans hXB.out.drew hb6)
          have hm6 := HA.out.below HB6.out
          obtain ⟨w7, hrun7, hM7, ht7⟩ := hm6.put (i := x1) (x := xd) (wf64 (by omega) (by have := HG.out.len; omega)) (by show xd.size ≤ maxLen; unfold maxLen; omega) (by unfold maxLen; omega)
          have hrun8 : (Instr.mapUpdate 58 (.map (some (w.heap.size + 1))) (.int .i64 x1) (.string xd)).run Try.prog w6 = .ok () w7 := hrun7
          have HM7 := Lib.hid hM7
          have HT7 := Lib.hid ht7
          refine hK.out _ _ ⟨keepc' (w := (wr.alloc (.cells #[.int .i64 x1, .string x2, .bool x3] 70)).drew) q0 hb6, keepc' (w := (wr.alloc (.cells #[.int .i64 x1, .string x2, .bool x3] 70)).drew) q1 hb6⟩ (fun hS1 => ?_)
          clear hK K5 hrun7 hM7 ht7 hm6 hb6
          try simp only [Act.put, List.setIfInBounds_toArray, List.set_cons_zero, List.set_cons_succ]
          refine wpAnyL_end 7 (by kernel_rfl) (by rfl) (by kernel_rfl) (by kernel_rfl) (fun K5 hK => ?_)
          go_simp
          refine hK.out _ _ (NoPanic.normal ?_)
          clear hK K5 hS0 hS1 q0 q1 kc2 hrun8
          go_wp2
          go_roundg (gk - 1)
          case measure => omega
          case rel => exact ⟨i + 1, _, by omega, by simp, (HM.out.trans ((Mod.belowAll HB6.out).mono (fun _ _ c => c.elim))).trans (mod_turned HT7.out), by rw [HY.out, apply_snoc]; exact HM7.out, by split <;> omega⟩
        · have HN2 := Lib.hid (HNO.out (by have := HKN.out; rw [this]; exact hkk))
          clear HYES HNO
          by_cases hk1 : i < kn
          · have hki : (i : Int) < (kn : Int) := by omega
            have hk2 : ks.getD i false = false := by simpa [hk1] using hkk
            obtain ⟨kb, ko, rfl, hkc⟩ := HK.out i (by have := HKN.out; omega)
            have kc0 : w.cell? ⟨kb, ko + i * 1 + 0, none⟩ = some (.bool (ks.getD i false)) := hkc 0 _ rfl
            rw [hk2] at kc0
            have kc1 : wr.cell? ⟨kb, ko + i, none⟩ = some (.bool false) := by
              have := ((((Mod.belowAll HBEL.out).mono (fun _ _ c => c.elim)).trans HM.out : Mod (fun k => k = w.heap.size + 1) w wr)).cell kc0 (by have := World.block_lt_of_cell? _ _ kc0; simp at this; show ¬ kb = _; omega)
              simpa using this
            have kc2 := fun o => keepc' kc1 (bel1 wr o)
            clear kc0 hkc hk1 hk2 kc1 hkk
            go_wp2
            go_roundg (gk - 1)
            case measure => omega
            case rel => exact ⟨i + 1, nl, by omega, by simp, HM.out.trans ((Mod.belowAll hXB.out).mono (fun _ _ c => c.elim)), by rw [HN2.out]; exact HA.out.below hXB.out, by omega⟩
          · have hki : (kn : Int) ≤ (i : Int) := by omega
            clear hk1 hkk
            go_wp2
            go_roundg (gk - 1)
            case measure => omega
            case rel => exact ⟨i + 1, nl, by omega, by simp, HM.out.trans ((Mod.belowAll hXB.out).mono (fun _ _ c => c.elim)), by rw [HN2.out]; exact HA.out.below hXB.out, by omega⟩
      · obtain rfl : i = n := by omega
        clear hlt hM hA hPr
        have hge : (i : Int) ≤ (i : Int) := Int.le_refl _
        go_wp2_with (go_at_call 38; refine (callsIn_wide.1 (back_in 3 ua i uc wr)).mono ?_; rintro e w9 ⟨rfl, rfl⟩)
        obtain ⟨V, hV⟩ : ∃ V, V = wr.alloc (.cells #[.slice ua i uc] 59) := ⟨_, rfl⟩
        have hVB : Below wr.heap.size wr V := by rw [hV]; exact bel1 _ _
        have hVx : V.cell? ⟨wr.heap.size, 0, none⟩ = some (.slice ua i uc) := by rw [hV]; exact cell_new _ _ _ 0 rfl
        have hVs : V.heap.size = wr.heap.size + 1 := by rw [hV]; simp
        rw [← hV]
        have hWV : Mod (fun k => k = w.heap.size + 1) w V := (((Mod.belowAll HBEL.out).mono (fun _ _ c => c.elim)).trans HM.out).trans ((Mod.belowAll hVB).mono (fun _ _ c => c.elim))
        have HWV := Lib.hid hWV
        have HVP := Lib.hid (HPR.out.below hVB)
        have HVL := Lib.hid (HA.out.below hVB)
        have HVb := Lib.hid (keepc' b0 hVB)
        have hwsz := hWV.size
        have hwrs : w.heap.size + 2 ≤ wr.heap.size := by have := HM.out.size; omega
        have hel : Lst encB 3 V ua s.undo := by
          intro j hj
          obtain ⟨ub, uo, e, hc⟩ := HSl.out.lst j hj
          exact ⟨ub, uo, e, hc.mod hWV (by have := World.block_lt_of_cell? _ _ (bf_cells hc).1; simp at this; omega)⟩
        have HEL := Lib.hid hel
        have hVp0 := HVP.out.cells.1.1
        clear hV hVB b0 r0 r1 r5 rf hnl hin hge hWV hel HM
        refine wpIn_wide (n := 3) |>.1 ?_
        refine range_over (F := Fence.wide) (n := 3) rfl (by decide) (gf := 50) (lb := #[.pointer (some ⟨wr.heap.size, 0, none⟩)]) rfl trivial (enters_of Try.func50 (by kernel_rfl) rfl)
          (encs := encX) (fun A B => A = B) (fun A B k x e _ h => e ▸ h) (fun k => k = bm ∨ V.heap.size ≤ k) (fun k hk => .inr hk) (S := fun xs W' => xs = backs s.undo s.undo.length ∧ Mod (fun k => k = bm ∨ V.heap.size ≤ k) V W') (N := s.undo.length)
          (fun x => 0 ≤ x.2.1 ∧ x.2.1 < 1024 ∧ x.2.2.1.size ≤ maxLen)
          (fun l J W hW hJ hY h0 => back1_in (3 - 1) (by omega) l wr.heap.size ua uc s.undo V (fun k => k = bm ∨ V.heap.size ≤ k) J _ (fun W' hm => ?hbx) (fun W' hm => ?hel) ?hlen (fun k hk => ?hok) hY W (Mod.of_below hW (Nat.le_refl _) _) h0)
          ?hS (fun _ => rfl) (fun pre W => Mod (fun k => k = bm ∨ V.heap.size ≤ k) V W ∧ MapAt ES W bm (cntF (restF s.now (pre.map (·.2)))) (restF s.now (pre.map (·.2)))) ?hI ?hIp ?h0 ?hround ?done
        case hbx => rw [HUL.out]; exact hm.cell hVx (by simp; omega)
        case hel =>
          intro j hj
          obtain ⟨ub, uo, e, hc⟩ := HEL.out j hj
          obtain ⟨ub2, uo2, e2, hc2⟩ := HSl.out.lst j hj
          rw [e] at e2
          simp at e2
          obtain ⟨rfl, rfl⟩ := e2
          have hlt := World.block_lt_of_cell? _ _ (bf_cells hc2).1
          have hne : ub ≠ bm := by
            rintro rfl
            obtain ⟨es, cl, hb⟩ := hP.out.map.blk
            have := (bf_cells hc2).1
            simp [World.cell?, hb] at this
          exact ⟨ub, uo, e, hc.mod hm (by simp at hlt; rintro (c | c) <;> omega)⟩
        case hlen => rw [HUL.out]; exact hl
        case hok =>
          have hk2 : s.undo.length - 1 - k < s.more.length := by have := HUL.out; have := HN.out; omega
          rw [show s.undo.getD (s.undo.length - 1 - k) default = _ from HMoreG.out _ (by have := HN.out; omega)]
          have hmm := HG.out.more (s.more.getD (s.undo.length - 1 - k) default) (by rw [List.getD_eq_getElem?_getD, List.getElem?_eq_getElem hk2]; exact List.getElem_mem _)
          have hlen := HG.out.len
          refine ⟨hmm.1, by simp only; omega, ?_⟩
          simp only
          cases hx : apply s.base (List.take (s.undo.length - 1 - k) s.more) (s.more.getD (s.undo.length - 1 - k) default).1 with
          | none => simp only [Option.getD_none]; unfold maxLen; decide
          | some y =>
            have := (apply_in (ws := List.take (s.undo.length - 1 - k) s.more) HG.out.base (fun v hv => HG.out.more v (List.mem_of_mem_take hv)) _ _ hx).2.2
            simp only [Option.getD_some]; unfold maxLen; omega
        case hS =>
          rintro xs W l o o' hl2 ho2 hoc ⟨rfl, hst⟩
          exact ⟨rfl, hst.trans (Mod.putObj (.inr hl2) o')⟩
        case hI =>
          rintro xs W l o o' hl2 ho2 hoc ⟨hm, hA2⟩
          exact ⟨hm.trans (Mod.putObj (.inr hl2) o'), hA2.mod (Mod.putObj (S := fun k => k = l) rfl o') (by omega)⟩
        case hIp => rintro xs A B h rfl; exact h
        case h0 =>
          intro o
          have hb := (grew_trans (bel1 V (.deferred (some []))) (bel1 _ o))
          exact ⟨Mod.of_below hb (Nat.le_refl _) _, HVP.out.map.below hb⟩
        case hround =>
          rintro l pre x W hl2 ⟨o, ho2, hoc⟩ ⟨hm, hA2⟩ hlen ⟨hx1, hx2, hx3⟩
          have hlW := (Array.getElem?_eq_some_iff.1 ho2).1
          obtain ⟨x0, x1, x2, x3⟩ := x
          simp only at hx1 hx2 hx3
          have hbelX := Lib.hid (bel1 W (.cells #[.int .i64 x1, .string x2, .bool x3] 70))
          have hn0 := cell_new W #[.int .i64 x1, .string x2, .bool x3] 70 0 (u := .int .i64 x1) rfl
          have hn1 := cell_new W #[.int .i64 x1, .string x2, .bool x3] 70 1 (u := .string x2) rfl
          have hn2 := cell_new W #[.int .i64 x1, .string x2, .bool x3] 70 2 (u := .bool x3) rfl
          have hbx1 := keepc' (hm.cell HVb.out (by simp; omega)) hbelX.out
          have hpm := keepc' (hm.cell hVp0 (by simp; have := HVP.out.not_own.2.2; omega)) hbelX.out
          have hA3 := Lib.hid (hA2.below hbelX.out)
          have HMW := Lib.hid hm
          have hsnoc := Lib.hid (fun Z (h : MapAt ES Z bm (cntF (restB (restF s.now (pre.map (·.2))) (x1, x2, x3))) (restB (restF s.now (pre.map (·.2))) (x1, x2, x3))) => show MapAt ES Z bm (cntF (restF s.now ((pre ++ [(x0, x1, x2, x3)]).map (·.2)))) (restF s.now ((pre ++ [(x0, x1, x2, x3)]).map (·.2))) by
            rw [List.map_append, List.map_cons, List.map_nil, restF_snoc]; exact h)
          clear hA2 hm HSl HK HMoreG HPR HA HM0 HP0 HBX0 HBEL
          simp only [encX, List.zip_toArray, List.zip_cons_cons, List.zip_nil_right, List.size_toArray, List.foldl_toArray', List.foldl_toArray, List.length_cons, List.length_nil, List.foldl_cons, List.foldl_nil, List.setIfInBounds_toArray, List.set_cons_succ, List.set_cons_zero]
          gi_wp2
          refine ⟨hbelX.out, fun o' => ?_⟩
          have hmo : Mod (fun k => k = l) (W.alloc (.cells #[.int .i64 x1, .string x2, .bool x3] 70)) ((W.alloc (.cells #[.int .i64 x1, .string x2, .bool x3] 70)).putObj l o') := Mod.putObj (S := fun k => k = l) rfl o'
          have m0 := hmo.cell hn0 (by simp; omega)
          have m1 := hmo.cell hn1 (by simp; omega)
          have m2 := hmo.cell hn2 (by simp; omega)
          have mb := hmo.cell hbx1 (by simp; omega)
          have mp := hmo.cell hpm (by simp; omega)
          have mA := hA3.out.mod hmo (by omega)
          have MMW := Lib.hid (HMW.out.trans (((Mod.belowAll hbelX.out).mono (fun _ _ c => c.elim)).trans (hmo.mono (fun k _ hk => .inr (by rw [hk]; exact hl2)))))
          have HL0 := Lib.hid (And.intro ho2 hoc)
          clear hn0 hn1 hn2 hbx1 hpm hA3 hmo
          generalize restF s.now (List.map (·.2) pre) = g at *
          have hne := Lib.hid (And.intro hlW hl2)
          generalize hY : (W.alloc (.cells #[.int .i64 x1, .string x2, .bool x3] 70)).putObj l o' = Y at *
          clear hY
          cases x3 with
          | true =>
            obtain ⟨Z, hrun, hMZ, hTZ⟩ := (mA.below ((Below.refl _ Y).drew)).put (i := x1) (x := x2) (wf64 (by omega) (by omega)) hx3 (Nat.lt_of_le_of_lt (cntF_le _) (by unfold maxLen; omega))
            have hrun2 : (Instr.mapUpdate 58 (.map (some bm)) (.int .i64 x1) (.string x2)).run Try.prog Y.drew = .ok () Z := hrun
            have HMZ := Lib.hid hMZ
            have HTZ := Lib.hid hTZ
            clear hMZ hTZ hrun mA
            gi_wp2
            refine wpIn_region_last (fun w' => w'.cell? ⟨w.heap.size, 0, none⟩ = some (.pointer (some ⟨p, 0, none⟩)) ∧ w'.cell? ⟨p, 0, none⟩ = some (.map (some bm)) ∧ w'.cell? ⟨W.heap.size, 0, none⟩ = some (.int .i64 x1) ∧ w'.cell? ⟨W.heap.size, 1, none⟩ = some (.string x2)) (by kernel_rfl) (by kernel_rfl) ⟨mb, mp, m0, m1⟩ (fun hS0 => ?_)
            refine wpAnyL_take 0 (v := ?_) rfl (by kernel_rfl) (fun _ _ _ h => h) (Or.inl ⟨by rfl, ?_⟩) (by assumption) ?_
            rotate_left
            · (intro w5 hSw; (try dsimp only at hSw); go_split_ands; go_simp; (try with_reducible rfl))
            try simp only [Act.put, List.setIfInBounds_toArray, List.set_cons_zero, List.set_cons_succ]
            refine wpAnyL_take 1 (v := ?_) rfl (by kernel_rfl) (fun _ _ _ h => h) (Or.inl ⟨by rfl, ?_⟩) (by assumption) ?_
            rotate_left
            · (intro w5 hSw; (try dsimp only at hSw); go_split_ands; go_simp; (try with_reducible rfl))
            try simp only [Act.put, List.setIfInBounds_toArray, List.set_cons_zero, List.set_cons_succ]
            refine wpAnyL_take 2 (v := ?_) rfl (by kernel_rfl) (fun _ _ _ h => h) (Or.inl ⟨by rfl, ?_⟩) (by assumption) ?_
            rotate_left
            · (intro w5 hSw; (try dsimp only at hSw); go_split_ands; go_simp; (try with_reducible rfl))
            try simp only [Act.put, List.setIfInBounds_toArray, List.set_cons_zero, List.set_cons_succ]
            refine wpAnyL_take 3 (v := ?_) rfl (by kernel_rfl) (fun _ _ _ h => h) (Or.inl ⟨by rfl, ?_⟩) (by assumption) ?_
            rotate_left
            · (intro w5 hSw; (try dsimp only at hSw); go_split_ands; go_simp; (try with_reducible rfl))
            try simp only [Act.put, List.setIfInBounds_toArray, List.set_cons_zero, List.set_cons_succ]
            refine wpAnyL_take 4 (v := ?_) rfl (by kernel_rfl) (fun _ _ _ h => h) (Or.inl ⟨by rfl, ?_⟩) (by assumption) ?_
            rotate_left
            · (intro w5 hSw; (try dsimp only at hSw); go_split_ands; go_simp; (try with_reducible rfl))
            try simp only [Act.put, List.setIfInBounds_toArray, List.set_cons_zero, List.set_cons_succ]
            refine wpAnyL_take 5 (v := ?_) rfl (by kernel_rfl) (fun _ _ _ h => h) (Or.inl ⟨by rfl, ?_⟩) (by assumption) ?_
            rotate_left
            · (intro w5 hSw; (try dsimp only at hSw); go_split_ands; go_simp; (try with_reducible rfl))
            try simp only [Act.put, List.setIfInBounds_toArray, List.set_cons_zero, List.set_cons_succ]
            refine wpAnyL_take 6 (v := ?_) rfl (by kernel_rfl) (fun _ _ _ h => h) (Or.inl ⟨by rfl, ?_⟩) (by assumption) ?_
            rotate_left
            · (intro w5 hSw; (try dsimp only at hSw); go_split_ands; go_simp; (try with_reducible rfl))
            try simp only [Act.put, List.setIfInBounds_toArray, List.set_cons_zero, List.set_cons_succ]
            refine wpAnyL_take 7 (v := ?_) rfl (by kernel_rfl) (fun _ _ _ h => h) (Or.inl ⟨by rfl, ?_⟩) (by assumption) ?_
            rotate_left
            · (intro w5 hSw; (try dsimp only at hSw); go_split_ands; go_simp; (try with_reducible rfl))
            try simp only [Act.put, List.setIfInBounds_toArray, List.set_cons_zero, List.set_cons_succ]
            refine wpAnyL_take 8 (v := ?_) rfl (by kernel_rfl) (fun _ _ _ h => h) (Or.inl ⟨by rfl, ?_⟩) (by assumption) ?_
            rotate_left
            · (intro w5 hSw; (try dsimp only at hSw); go_split_ands; go_simp; (try with_reducible rfl))
            try simp only [Act.put, List.setIfInBounds_toArray, List.set_cons_zero, List.set_cons_succ]
            refine wpAnyL_take 9 (v := ?_) rfl (by kernel_rfl) (fun _ _ _ h => h) (Or.inl ⟨by rfl, ?_⟩) (by assumption) ?_
            rotate_left
            · (intro w5 hSw; (try dsimp only at hSw); go_split_ands; go_simp; (try with_reducible rfl))
            try simp only [Act.put, List.setIfInBounds_toArray, List.set_cons_zero, List.set_cons_succ]
            refine wpAnyL_end 10 (by kernel_rfl) (by rfl) (by kernel_rfl) (by kernel_rfl) (fun K5 hK => ?_)
            go_simp
            refine hK.out _ _ (NoOut.normal ?_)
            clear hK K5 hS0
            gi_wp2
            have hmz : Mod (fun k => k = bm) Y Z := ((Mod.belowAll (Below.refl _ Y).drew).mono (fun _ _ c => c.elim)).trans (mod_turned HTZ.out)
            refine ⟨⟨hmz.size, fun k o hk hk2 _ => hmz.heap hk2 (by omega)⟩, hmz.mono (fun k _ hk => .inl hk), by have := MMW.out.trans (hmz.mono (fun k _ hk => .inl hk)); simpa only [hVs] using this, hsnoc.out _ ?_⟩
            show MapAt ES Z bm (cntF (upd g x1 (some x2))) (upd g x1 (some x2))
            rw [cntF_put hx1 hx2]
            exact HMZ.out
          | false =>
            obtain ⟨Z, hrun, hMZ, hTZ⟩ := (mA.below ((Below.refl _ Y).drew)).del (i := x1) (wf64 (by omega) (by omega)) 0
            have HMZ := Lib.hid hMZ
            have HTZ := Lib.hid hTZ
            clear hMZ hTZ mA
            gi_wp2
            refine wpIn_region_last (fun w' => w'.cell? ⟨w.heap.size, 0, none⟩ = some (.pointer (some ⟨p, 0, none⟩)) ∧ w'.cell? ⟨p, 0, none⟩ = some (.map (some bm)) ∧ w'.cell? ⟨W.heap.size, 0, none⟩ = some (.int .i64 x1)) (by kernel_rfl) (by kernel_rfl) ⟨mb, mp, m0⟩ (fun hS0 => ?_)
            refine wpAnyL_take 0 (v := ?_) rfl (by kernel_rfl) (fun _ _ _ h => h) (Or.inl ⟨by rfl, ?_⟩) (by assumption) ?_
            rotate_left
            · (intro w5 hSw; (try dsimp only at hSw); go_split_ands; go_simp; (try with_reducible rfl))
            try simp only [Act.put, List.setIfInBounds_toArray, List.set_cons_zero, List.set_cons_succ]
            refine wpAnyL_take 1 (v := ?_) rfl (by kernel_rfl) (fun _ _ _ h => h) (Or.inl ⟨by rfl, ?_⟩) (by assumption) ?_
            rotate_left
            · (intro w5 hSw; (try dsimp only at hSw); go_split_ands; go_simp; (try with_reducible rfl))
            try simp only [Act.put, List.setIfInBounds_toArray, List.set_cons_zero, List.set_cons_succ]
            refine wpAnyL_take 2 (v := ?_) rfl (by kernel_rfl) (fun _ _ _ h => h) (Or.inl ⟨by rfl, ?_⟩) (by assumption) ?_
            rotate_left
            · (intro w5 hSw; (try dsimp only at hSw); go_split_ands; go_simp; (try with_reducible rfl))
            try simp only [Act.put, List.setIfInBounds_toArray, List.set_cons_zero, List.set_cons_succ]
            refine wpAnyL_take 3 (v := ?_) rfl (by kernel_rfl) (fun _ _ _ h => h) (Or.inl ⟨by rfl, ?_⟩) (by assumption) ?_
            rotate_left
            · (intro w5 hSw; (try dsimp only at hSw); go_split_ands; go_simp; (try with_reducible rfl))
            try simp only [Act.put, List.setIfInBounds_toArray, List.set_cons_zero, List.set_cons_succ]
            refine wpAnyL_take 4 (v := ?_) rfl (by kernel_rfl) (fun _ _ _ h => h) (Or.inl ⟨by rfl, ?_⟩) (by assumption) ?_
            rotate_left
            · (intro w5 hSw; (try dsimp only at hSw); go_split_ands; go_simp; (try with_reducible rfl))
            try simp only [Act.put, List.setIfInBounds_toArray, List.set_cons_zero, List.set_cons_succ]
            refine wpAnyL_take 5 (v := ?_) rfl (by kernel_rfl) (fun _ _ _ h => h) (Or.inl ⟨by rfl, ?_⟩) (by assumption) ?_
            rotate_left
            · (intro w5 hSw; (try dsimp only at hSw); go_split_ands; go_simp; (try with_reducible rfl))
            try simp only [Act.put, List.setIfInBounds_toArray, List.set_cons_zero, List.set_cons_succ]
            refine wpAnyL_take 6 (v := ?_) rfl (by kernel_rfl) (fun _ _ _ h => h) (Or.inl ⟨by rfl, ?_⟩) (by assumption) ?_
            rotate_left
            · (intro w5 hSw; (try dsimp only at hSw); go_split_ands; go_simp; (try with_reducible rfl))
            try simp only [Act.put, List.setIfInBounds_toArray, List.set_cons_zero, List.set_cons_succ]
            refine wpAnyL_end 7 (by kernel_rfl) (by rfl) (by kernel_rfl) (by kernel_rfl) (fun K5 hK => ?_)
            go_simp
            refine hK.out _ _ (NoOut.normal ?_)
            clear hK K5 hS0
            gi_wp2
            have hmz : Mod (fun k => k = bm) Y Z := ((Mod.belowAll (Below.refl _ Y).drew).mono (fun _ _ c => c.elim)).trans (mod_turned HTZ.out)
            refine ⟨⟨hmz.size, fun k o hk hk2 _ => hmz.heap hk2 (by omega)⟩, hmz.mono (fun k _ hk => .inl hk), by have := MMW.out.trans (hmz.mono (fun k _ hk => .inl hk)); simpa only [hVs] using this, hsnoc.out _ ?_⟩
            show MapAt ES Z bm (cntF (upd g x1 (none))) (upd g x1 (none))
            rw [cntF_del hx1 hx2]
            exact HMZ.out
        case done =>
          rintro D xs W hD ⟨rfl, hst⟩ ⟨hm, hA2⟩ hK
          rw [show restF s.now ((backs s.undo s.undo.length).map (·.2)) = s.base from restF_backs s.base s.more] at hA2
          have hPW : ∀ q u, q ≠ bm → q < V.heap.size → V.cell? ⟨q, 0, none⟩ = some u → W.cell? ⟨q, 0, none⟩ = some u := fun q u h1 h2 h3 => hm.cell h3 (by simp; omega)
          have hb1 := hPW _ _ (by omega) (by omega) HVb.out
          have hp1 := hPW _ _ HVP.out.not_own.2.2 (by omega) hVp0
          have hL2 := HVL.out.mod hm (by omega)
          have hDlt := (Array.getElem?_eq_some_iff.1 hK).1
          have HCM := Lib.hid (copy_map (show bm ≠ w.heap.size + 1 by omega) hA2 hL2 (fun i x h => by
            have := apply_none_in (n := s.len) (ws := kept (s.more.take _) ks) (fun w hw => HG.out.more w (List.mem_of_mem_take (kept_mem hw))) i x h
            have := HG.out.len
            exact ⟨by omega, by omega, by unfold maxLen; omega⟩))
          have HMW := Lib.hid hm
          clear hPW hA2 hL2 hst hm
          go_wp2_with (go_at_call 39; refine HCM.out.mono ?_; rintro e w7 ⟨rfl, hC7, hM7⟩; have b7 := hM7.cell hb1 (by simp; omega); have p7 := hM7.cell hp1 (by simp; exact HVP.out.not_own.2.2); have K7 := Lib.hid (hM7.heap hK (by omega)); have HC7 := Lib.hid hC7; have HM7 := Lib.hid hM7; clear hC7 hM7 hb1 hp1)
          have hblk7 := HM7.out.heap (HMW.out.heap HVP.out.blk (by have := HVP.out.not_own.2.2; rintro (c | c) <;> omega)) HVP.out.not_own.2.2
          have f1 := (cell_of hblk7 1 rfl).2
          have f5 := (cell_of hblk7 5 rfl).2
          have c1 := (cell_of hblk7 1 rfl).1
          have c5 := (cell_of hblk7 5 rfl).1
          have hown7 : OwnB w7 base v s.undo := (HVP.out.own.mod HMW.out (fun g hg => by have h1 := (HVP.out.lt g (.inr (.inr hg))).2; have h2 := HVP.out.not_own.2.1; rintro (c | c); exact h2 (c ▸ hg); omega)).mod HM7.out (fun g hg c => HVP.out.not_own.2.1 (c ▸ hg))
          have hkt : kept (List.take i s.more) ks = kept s.more ks := by rw [List.take_of_length_le (by have := HN.out; omega)]
          have hC8 := HC7.out
          rw [join_kept, hkt] at hC8
          have HPR7 : Hid (PR w7 base p bm v s.fl s.undo (cntF (apply s.base (kept s.more ks))) (apply s.base (kept s.more ks))) := Lib.hid ⟨hblk7, hP.out.bp, hown7, hP.out.bb, hC8⟩
          clear hblk7 hown7 hkt hC8 p7
          refine wp_region_noPanic ?_
          refine wp_region_last (fun w' => w'.cell? ⟨w.heap.size, 0, none⟩ = some (.pointer (some ⟨p, 0, none⟩))) (by kernel_rfl) b7 (fun hS0 => ?_)
          refine wpAnyL_take 0 (v := ?_) rfl (by kernel_rfl) (fun _ _ _ h => h) (Or.inl ⟨by rfl, ?_⟩) (by assumption) ?_
          rotate_left
          · (intro w5 hSw; (try dsimp only at hSw); go_split_ands; go_simp; (try with_reducible rfl))
          try simp only [Act.put, List.setIfInBounds_toArray, List.set_cons_zero, List.set_cons_succ]
          refine wpAnyL_take 1 (v := ?_) rfl (by kernel_rfl) (fun _ _ _ h => h) (Or.inl ⟨by rfl, ?_⟩) (by assumption) ?_
          rotate_left
          · (intro w5 hSw; (try dsimp only at hSw); go_split_ands; go_simp; (try with_reducible rfl))
          try simp only [Act.put, List.setIfInBounds_toArray, List.set_cons_zero, List.set_cons_succ]
          refine wpAnyL_take 2 (v := ?_) rfl (by kernel_rfl) (fun _ _ _ h => h) (Or.inl ⟨by rfl, ?_⟩) (by assumption) ?_
          rotate_left
          · (intro w5 hSw; (try dsimp only at hSw); go_split_ands; go_simp; (try with_reducible rfl))
          try simp only [Act.put, List.setIfInBounds_toArray, List.set_cons_zero, List.set_cons_succ]
          refine wpAnyL_take 3 (v := ?_) rfl (by kernel_rfl) (fun _ _ _ h => h) (Or.inl ⟨by rfl, ?_⟩) (by assumption) ?_
          rotate_left
          · (intro w5 hSw; (try dsimp only at hSw); go_split_ands; go_simp; (try with_reducible rfl))
          try simp only [Act.put, List.setIfInBounds_toArray, List.set_cons_zero, List.set_cons_succ]
          refine wpAnyL_step 4 (by kernel_rfl) (by rfl) (fun K5 hK => ?_)
          go_simp
          refine hK.out _ _ (by show (w7.setCell ⟨p, 1, none⟩ _).cell? _ = _; rw [World.cell?_setCell_far _ _ _ _ (by simp; omega)]; exact b7) (fun hS1 => ?_)
          clear hK K5
          try simp only [Act.put, List.setIfInBounds_toArray, List.set_cons_zero, List.set_cons_succ]
          refine wpAnyL_take 5 (v := ?_) rfl (by kernel_rfl) (fun _ _ _ h => h) (Or.inl ⟨by rfl, ?_⟩) (by assumption) ?_
          rotate_left
          · (intro w5 hSw; (try dsimp only at hSw); go_split_ands; go_simp; (try with_reducible rfl))
          try simp only [Act.put, List.setIfInBounds_toArray, List.set_cons_zero, List.set_cons_succ]
          refine wpAnyL_take 6 (v := ?_) rfl (by kernel_rfl) (fun _ _ _ h => h) (Or.inl ⟨by rfl, ?_⟩) (by assumption) ?_
          rotate_left
          · (intro w5 hSw; (try dsimp only at hSw); go_split_ands; go_simp; (try with_reducible rfl))
          try simp only [Act.put, List.setIfInBounds_toArray, List.set_cons_zero, List.set_cons_succ]
          refine wpAnyL_end 7 (by kernel_rfl) (by rfl) (by kernel_rfl) (by kernel_rfl) (fun K5 hK => ?_)
          go_simp
          refine hK.out _ _ (NoPanic.normal ?_)
          clear hK K5 hS0 hS1
          have hp1 := HPR7.out.row (Mod.refl (fun _ => False) w7) (fun c => c) (fun c => c) (ownL_nil (enc := encB) (sz := 3) (e := 70) w7 base)
          have hp5 := hp1.set 5 (.bool false) ⟨s.len, s.room, s.fuse, false⟩ rfl
          have hD7 : ((w7.setCell ⟨p, 1, none⟩ (.slice none 0 0)).setCell ⟨p, 5, none⟩ (.bool false)).drew.heap[D]? = some (.deferred (some [])) :=
            (Mod.cellOf p 5 (.bool false)).heap ((Mod.cellOf p 1 (.slice none 0 0)).heap K7.out (by omega)) (by omega)
          refine ⟨by simp, .inl ⟨_, _, rfl, run_takeDeferred hD7, ?_⟩⟩
          refine ⟨_, results_none rfl _ _ _, rfl, .slice none 0 0, ?_, ?_, fun g hg => by simp [Value.ownBlock] at hg⟩
          · have hp6 := (hp5.below ((Below.refl _ _).drew)).mod (Mod.putObj (S := fun k => k = D) rfl (.deferred none)) (fun k hk => by
              rcases hk with hk | hk | hk
              · omega
              · omega
              · simp [Value.ownBlock] at hk)
            exact hp6
          · have m1 : Mod (PF p bm v) w V := HWV.out.mono (fun k hk h => by omega)
            have m2 := m1.then HMW.out (fun k hk h => by rcases h with h | h; exact .inr (.inl h); omega)
            have m3 := m2.then HM7.out (fun k hk h => .inr (.inl h))
            have m4 := m3.then (Mod.cellOf p 1 (.slice none 0 0)) (fun k hk h => .inl h)
            have m5 := m4.then (Mod.cellOf p 5 (.bool false)) (fun k hk h => .inl h)
            have m6 := m5.then (Mod.belowAll (Below.refl _ ((w7.setCell ⟨p, 1, none⟩ (.slice none 0 0)).setCell ⟨p, 5, none⟩ (.bool false))).drew) (fun k hk h => h.elim)
            exact m6.then (Mod.putObj (S := fun k => k = D) rfl (.deferred none)) (fun k hk h => by omega)
  · have ho2 : s.off = false := by simpa using ho
    have hW : wakeS s ks = s := by unfold wakeS; rw [if_neg ho]
    rw [hW]
    have hs := state_on (h.below (bel1 w (.cells #[.pointer (some ⟨p, 0, none⟩)] 24))) ho2
    clear ho hW h hg hl hk
    refine callsIn_wide (n := 3) |>.1 ?_
    refine callsIn_of_wp_marks Try.func20 rfl trivial ?_ rfl
    simp only [Try.ntmps20, List.size_toArray, List.length_cons, List.length_nil, Nat.reduceAdd, Nat.reduceSub, Array.replicate_succ, Array.replicate_zero, List.push_toArray, List.append_toArray, List.nil_append, List.cons_append]
    refine wpIn_wide.2 ?_
    go_wp2_with (go_at_call 30; refine hs.mono ?_; rintro e w1 ⟨rfl, rfl⟩)
    refine ⟨_, results_none rfl _ _ _, rfl, ?_⟩
    exact PUpd.same hP.out (bel1 _ _)
end Go.Proofs.Ytcgkdomfbkkboaa
