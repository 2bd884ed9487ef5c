/- Which sectors still fit: the law. -/
import Derived.Test.YtcgkdomfbkkboaaBoth
import Derived.Test.YtcgkdomfbkkboaaIns
namespace Go.Proofs.Ytcgkdomfbkkboaa
open Go.RowKit Go.Joins Go.ChangeMaps

/-- behind a write of a letter. -/
theorem fl_write {s : St} (i : Nat) (hm : s.len = 40 ∧ s.more.length ≤ i) (x : Int) : (writeR s x wA).2.len = 40 ∧ (writeR s x wA).2.more.length ≤ i + 1 := by
  refine ⟨?_, by have := write_more s x wA; omega⟩
  unfold writeR
  have hb := (burn_now s).2.2.2.1
  split
  · exact hm.1
  · split
    · exact hm.1
    · split
      · exact hm.1
      · split
        · rw [hb]; exact hm.1
        · show (burnS s).len = 40; rw [hb]; exact hm.1
set_option linter.unusedSimpArgs false in
set_option maxHeartbeats 16000000 in
set_option maxRecDepth 100000 in
theorem lawFits (a0 : Option Addr) (cap0 : Nat) (l0 : List Int) (a1 : Option Addr) (cap1 : Nat) (l1 : List Int) (a2 : Int) (W : World) (hin0 : Lst encI 1 W a0 l0) (hw0 : ∀ x ∈ l0, (Lit.int .i64 x).wf = true) (hc0 : l0.length ≤ cap0) (hin1 : Lst encU 1 W a1 l1) (hby : ∀ x ∈ l1, 0 ≤ x ∧ x ≤ 255) (h2 : 0 ≤ a2) (h3 : a2 ≤ 255) :
    Calls Try.prog 3 #[.slice a0 l0.length cap0, .slice a1 l1.length cap1, .int .u8 a2] W (RetB true W) := by
  have H0 := Lib.hid hin0
  have HW0 := Lib.hid hw0
  have H1 := Lib.hid hin1
  have HBy := Lib.hid hby
  clear hin0 hw0 hin1 hby
  generalize hla : l0.length = n0 at *
  have HN0 := Lib.hid hla
  generalize hlb : l1.length = n1 at *
  have HN1 := Lib.hid hlb
  clear hla hlb
  go_enter Try.func3, Try.ntmps3
  go_upto_region 5 with (first
    | (go_at_call 9; refine (new_any 40 a2 _ (by omega) (by omega) h2).mono ?_; rintro e w1 ⟨rfl, hP, hB⟩; have P := Lib.hid hP; have B := Lib.hid hB; clear hP hB)
    | (go_at_call 10; refine (b_both (by omega) (by omega) h2 (by omega) B.out P.out).mono ?_; rintro e w2 ⟨q, bv, nv, rfl, hN⟩; have N := Lib.hid hN; clear hN P B))
  have hs0 := Lib.hid (show (newS 40 a2).len = 40 ∧ (newS 40 a2).more.length ≤ 0 from ⟨rfl, Nat.le_refl _⟩)
  generalize newS 40 a2 = s0 at *
  go_loopg [9] 60 (fun gk v9 wr => ∃ i : Nat, i + gk = 60 ∧ v9 = .int .i64 (i : Int) ∧ i ≤ n1 ∧ ∃ s, BE W wr (fun _ => False) (W.heap.size + 1) W.heap.size q bv nv s s ∧ s.len = 40 ∧ s.more.length ≤ i)
  case atStart => exact ⟨0, by omega, rfl, by omega, s0, N.out, hs0.out⟩
  case round =>
    obtain ⟨i, hik, rfl, hi1, s, hN, hs⟩ := hrel
    clear N hs0
    have N := Lib.hid hN
    have HS := Lib.hid hs
    clear hN hs
    by_cases hgo : i < n1 ∧ i < 60
    · obtain ⟨hlt, h60⟩ := hgo
      have hli : (i : Int) < (n1 : Int) := by omega
      have h60i : (i : Int) < 60 := by omega
      obtain ⟨b, off, rfl, hc⟩ := H1.out i (by rw [HN1.out]; exact hlt)
      obtain ⟨y0, y1⟩ := HBy.out _ (getD_mem (i := i) (by rw [HN1.out]; exact hlt))
      have c0 : wr.cell? ⟨b, off + i, none⟩ = some (.int .u8 (l1.getD i default)) := by
        have := keepc' (hc 0 _ rfl) N.out.bel
        simpa using this
      have C0 := Lib.hid (show W.cell? ⟨b, off + i, none⟩ = some (.int .u8 (l1.getD i default)) from by simpa using hc 0 _ rfl)
      generalize l1.getD i default = y at *
      clear hc
      have x0 : 0 ≤ y % 40 := by omega
      have x1 : y % 40 < 40 := by omega
      have hym : IntKind.i64.wrap (y.tmod 40) = y % 40 := by rw [Int.tmod_eq_emod_of_nonneg y0]; exact IntWalk.i64_in _ (by omega)
      have HYM := Lib.hid hym
      clear hym
      go_upto_region 7 with fail
      obtain ⟨wq, hwq⟩ : ∃ wq, wq = wr := ⟨_, rfl⟩
      subst hwq
      refine wp_region_noPanic ?_
      refine wp_region_last (fun w' => w'.cell? ⟨b, off + i, none⟩ = some (.int .u8 y) ∧ BE W w' (fun _ => False) (W.heap.size + 1) W.heap.size q bv nv s s) (by kernel_rfl) ⟨c0, N.out.below (Below.refl _ _).drew⟩ (fun hS0 => ?_)
      refine wpAnyL_take 0 (v := ?_) rfl (by kernel_rfl) (fun _ _ _ h => h) (Or.inl ⟨by kernel_rfl, ?_⟩) (by assumption) ?_
      rotate_left
      · (intro w5 hSw; (try dsimp only at hSw); go_split_ands; go_simp; (try with_reducible rfl))
      try simp only [Act.put, List.setIfInBounds_toArray, List.set_cons_zero, List.set_cons_succ]
      refine wpAnyL_take 1 (v := ?_) rfl (by kernel_rfl) (fun _ _ _ h => h) (Or.inl ⟨by kernel_rfl, ?_⟩) (by assumption) ?_
      rotate_left
      · (intro w5 hSw; (try dsimp only at hSw); go_split_ands; go_simp; (try with_reducible rfl))
      try simp only [Act.put, List.setIfInBounds_toArray, List.set_cons_zero, List.set_cons_succ]
      refine wpAnyL_take 2 (v := ?_) rfl (by kernel_rfl) (fun _ _ _ h => h) (Or.inl ⟨by kernel_rfl, ?_⟩) (by assumption) ?_
      rotate_left
      · (intro w5 hSw; (try dsimp only at hSw); go_split_ands; go_simp; (try with_reducible rfl))
      try simp only [Act.put, List.setIfInBounds_toArray, List.set_cons_zero, List.set_cons_succ]
      refine wpAnyL_take 3 (v := ?_) rfl (by kernel_rfl) (fun _ _ _ h => h) (Or.inl ⟨by kernel_rfl, ?_⟩) (by assumption) ?_
      rotate_left
      · (intro w5 hSw; (try dsimp only at hSw); go_split_ands; go_simp; (try with_reducible rfl))
      try simp only [Act.put, List.setIfInBounds_toArray, List.set_cons_zero, List.set_cons_succ]
      refine wpAnyL_take 4 (v := ?_) rfl (by kernel_rfl) (fun _ _ _ h => h) (Or.inl ⟨by kernel_rfl, ?_⟩) (by assumption) ?_
      rotate_left
      · (intro w5 hSw; (try dsimp only at hSw); go_split_ands; go_simp; (try with_reducible rfl))
      try simp only [Act.put, List.setIfInBounds_toArray, List.set_cons_zero, List.set_cons_succ]
      refine wpAnyL_take 5 (v := ?_) rfl (by kernel_rfl) (fun _ _ _ h => h) (Or.inl ⟨by kernel_rfl, ?_⟩) (by assumption) ?_
      rotate_left
      · (intro w5 hSw; (try dsimp only at hSw); go_split_ands; go_simp; (try with_reducible rfl))
      try simp only [Act.put, List.setIfInBounds_toArray, List.set_cons_zero, List.set_cons_succ]
      refine wpAnyL_take 6 (v := ?_) rfl (by kernel_rfl) (fun _ _ _ h => h) (Or.inl ⟨by kernel_rfl, ?_⟩) (by assumption) ?_
      rotate_left
      · (intro w5 hSw; (try dsimp only at hSw); go_split_ands; go_simp; (try with_reducible rfl))
      try simp only [Act.put, List.setIfInBounds_toArray, List.set_cons_zero, List.set_cons_succ]
      refine wpAnyL_step 7 (by kernel_rfl) (by rfl) (fun K5 hK => ?_)
      go_simp
      go_at_call 12
      refine (d_dA _).mono ?_
      rintro e w6 ⟨rfl, hb⟩
      dsimp only
      refine hK.out _ _ ⟨keepc' (w := wq.drew) c0 hb, hS0.2.below hb⟩ (fun hS1 => ?_)
      have N' := Lib.hid (hS0.2.below hb)
      clear hK K5 hb
      try simp only [Act.put, List.setIfInBounds_toArray, List.set_cons_zero, List.set_cons_succ]
      refine wpAnyL_end 8 (by kernel_rfl) (by rfl) (by kernel_rfl) (by kernel_rfl) (fun K5 hK => ?_)
      go_simp
      go_at_call 11
      refine (b_write N'.out (by have := HS.out.2; omega)).mono ?_
      rintro e w7 ⟨rfl, hs⟩
      dsimp only
      refine hK.out _ _ (NoPanic.normal ?_)
      clear hK K5 hS0 hS1 N
      have N := Lib.hid hs.1
      rw [HYM.out] at N
      clear hs N'
      have HF := Lib.hid (fl_write i HS.out (y % 40))
      have hmm : s.more.length ≤ 1000000 := by have := HS.out.2; omega
      have HMM := Lib.hid hmm
      clear hmm c0
      go_upto_region 8 with fail
      have c0 := keepc' C0.out N.out.bel
      obtain ⟨wq, hwq⟩ : ∃ wq, wq = w7 := ⟨_, rfl⟩
      subst hwq
      refine wp_region_noPanic ?_
      refine wp_region_last (fun w' => w'.cell? ⟨b, off + i, none⟩ = some (.int .u8 y) ∧ BE W w' (fun _ => False) (W.heap.size + 1) W.heap.size q bv nv (writeR s (y % 40) wA).2 s) (by kernel_rfl) ⟨c0, N.out.below (Below.refl _ _).drew⟩ (fun hS0 => ?_)
      refine wpAnyL_take 0 (v := ?_) rfl (by kernel_rfl) (fun _ _ _ h => h) (Or.inl ⟨by kernel_rfl, ?_⟩) (by assumption) ?_
      rotate_left
      · (intro w5 hSw; (try dsimp only at hSw); go_split_ands; go_simp; (try with_reducible rfl))
      try simp only [Act.put, List.setIfInBounds_toArray, List.set_cons_zero, List.set_cons_succ]
      refine wpAnyL_take 1 (v := ?_) rfl (by kernel_rfl) (fun _ _ _ h => h) (Or.inl ⟨by kernel_rfl, ?_⟩) (by assumption) ?_
      rotate_left
      · (intro w5 hSw; (try dsimp only at hSw); go_split_ands; go_simp; (try with_reducible rfl))
      try simp only [Act.put, List.setIfInBounds_toArray, List.set_cons_zero, List.set_cons_succ]
      refine wpAnyL_take 2 (v := ?_) rfl (by kernel_rfl) (fun _ _ _ h => h) (Or.inl ⟨by kernel_rfl, ?_⟩) (by assumption) ?_
      rotate_left
      · (intro w5 hSw; (try dsimp only at hSw); go_split_ands; go_simp; (try with_reducible rfl))
      try simp only [Act.put, List.setIfInBounds_toArray, List.set_cons_zero, List.set_cons_succ]
      refine wpAnyL_take 3 (v := ?_) rfl (by kernel_rfl) (fun _ _ _ h => h) (Or.inl ⟨by kernel_rfl, ?_⟩) (by assumption) ?_
      rotate_left
      · (intro w5 hSw; (try dsimp only at hSw); go_split_ands; go_simp; (try with_reducible rfl))
      try simp only [Act.put, List.setIfInBounds_toArray, List.set_cons_zero, List.set_cons_succ]
      refine wpAnyL_take 4 (v := ?_) rfl (by kernel_rfl) (fun _ _ _ h => h) (Or.inl ⟨by kernel_rfl, ?_⟩) (by assumption) ?_
      rotate_left
      · (intro w5 hSw; (try dsimp only at hSw); go_split_ands; go_simp; (try with_reducible rfl))
      try simp only [Act.put, List.setIfInBounds_toArray, List.set_cons_zero, List.set_cons_succ]
      refine wpAnyL_take 5 (v := ?_) rfl (by kernel_rfl) (fun _ _ _ h => h) (Or.inl ⟨by kernel_rfl, ?_⟩) (by assumption) ?_
      rotate_left
      · (intro w5 hSw; (try dsimp only at hSw); go_split_ands; go_simp; (try with_reducible rfl))
      try simp only [Act.put, List.setIfInBounds_toArray, List.set_cons_zero, List.set_cons_succ]
      refine wpAnyL_take 6 (v := ?_) rfl (by kernel_rfl) (fun _ _ _ h => h) (Or.inl ⟨by kernel_rfl, ?_⟩) (by assumption) ?_
      rotate_left
      · (intro w5 hSw; (try dsimp only at hSw); go_split_ands; go_simp; (try with_reducible rfl))
      try simp only [Act.put, List.setIfInBounds_toArray, List.set_cons_zero, List.set_cons_succ]
      refine wpAnyL_step 7 (by kernel_rfl) (by rfl) (fun K5 hK => ?_)
      go_simp
      go_at_call 12
      refine (d_dA _).mono ?_
      rintro e w6 ⟨rfl, hb⟩
      dsimp only
      refine hK.out _ _ ⟨keepc' (w := wq.drew) c0 hb, hS0.2.below hb⟩ (fun hS1 => ?_)
      have N' := Lib.hid (hS0.2.below hb)
      clear hK K5 hb
      try simp only [Act.put, List.setIfInBounds_toArray, List.set_cons_zero, List.set_cons_succ]
      refine wpAnyL_end 8 (by kernel_rfl) (by rfl) (by kernel_rfl) (by kernel_rfl) (fun K5 hK => ?_)
      go_simp
      go_at_call 13
      refine (b_rwrite N'.out HMM.out).mono ?_
      rintro e w7 ⟨rfl, hs⟩
      dsimp only
      refine hK.out _ _ (NoPanic.normal ?_)
      clear hK K5 hS0 hS1 N
      have N := Lib.hid hs.1
      rw [HYM.out] at N
      clear hs N'
      go_wp2
      go_roundg (gk - 1)
      case measure => omega
      case rel => exact ⟨i + 1, by omega, by simp, by omega, _, N.out, HF.out⟩
    · have hgo2 : n1 ≤ i ∨ 60 ≤ i := by omega
      by_cases hge : n1 ≤ i
      · have hgei : (n1 : Int) ≤ (i : Int) := by omega
        by_cases h100 : n0 ≤ 100
        · have h100i : (n0 : Int) ≤ 100 := by omega
          clear h100
          clear hgo hgo2
          have HLi := Lib.hid (H0.out)
          have HWf := Lib.hid (show WfI l0 from fun x hx => HW0.out x (hx))
          have HLn := Lib.hid (show l0.length = n0 by exact HN0.out)
          have T1 := trivial
          go_wp2_with (first
            | (have z := T1; go_at_call 14; refine (b_fits (l := l0) N.out (HLi.out.below N.out.bel) HWf.out HLn.out (by omega)).mono ?_; rintro e w7 ⟨rfl, hb⟩; have N' := Lib.hid (N.out.below hb); clear N hb z T1; have N := N'; clear N'; have T2 := trivial)
            | (have z := T2; go_at_call 15; refine (b_rfits (l := l0) N.out (HLi.out.below N.out.bel) HLn.out (by omega)).mono ?_; rintro e w8 ⟨rfl, hb⟩; have N' := Lib.hid (N.out.below hb); clear N hb z T2; have N := N'; clear N'; have T3 := trivial)
            | (have z := T3; go_at_call 16; refine (works_any _).mono ?_; rintro e w9 ⟨rfl, hb⟩; have N' := Lib.hid (N.out.below hb); clear N hb z T3; have N := N'; clear N'))
          go_ret
          exact retB rfl N.out.bel
        · have h100i : (100 : Int) < (n0 : Int) := by omega
          have hcap : (100 : Int) ≤ (cap0 : Int) := by omega
          clear h100
          clear hgo hgo2
          have HLi := Lib.hid (H0.out.take 100)
          have HWf := Lib.hid (show WfI (l0.take 100) from fun x hx => HW0.out x (List.mem_of_mem_take hx))
          have HLn := Lib.hid (show (l0.take 100).length = 100 by rw [List.length_take]; have := HN0.out; omega)
          have T1 := trivial
          go_wp2_with (first
            | (have z := T1; go_at_call 14; refine (b_fits (l := (l0.take 100)) N.out (HLi.out.below N.out.bel) HWf.out HLn.out (by omega)).mono ?_; rintro e w7 ⟨rfl, hb⟩; have N' := Lib.hid (N.out.below hb); clear N hb z T1; have N := N'; clear N'; have T2 := trivial)
            | (have z := T2; go_at_call 15; refine (b_rfits (l := (l0.take 100)) N.out (HLi.out.below N.out.bel) HLn.out (by omega)).mono ?_; rintro e w8 ⟨rfl, hb⟩; have N' := Lib.hid (N.out.below hb); clear N hb z T2; have N := N'; clear N'; have T3 := trivial)
            | (have z := T3; go_at_call 16; refine (works_any _).mono ?_; rintro e w9 ⟨rfl, hb⟩; have N' := Lib.hid (N.out.below hb); clear N hb z T3; have N := N'; clear N'))
          go_ret
          exact retB rfl N.out.bel
      · have h60 : (60 : Int) ≤ (i : Int) := by omega
        have hli : (i : Int) < (n1 : Int) := by omega
        by_cases h100 : n0 ≤ 100
        · have h100i : (n0 : Int) ≤ 100 := by omega
          clear h100
          clear hgo hgo2
          have HLi := Lib.hid (H0.out)
          have HWf := Lib.hid (show WfI l0 from fun x hx => HW0.out x (hx))
          have HLn := Lib.hid (show l0.length = n0 by exact HN0.out)
          have T1 := trivial
          go_wp2_with (first
            | (have z := T1; go_at_call 14; refine (b_fits (l := l0) N.out (HLi.out.below N.out.bel) HWf.out HLn.out (by omega)).mono ?_; rintro e w7 ⟨rfl, hb⟩; have N' := Lib.hid (N.out.below hb); clear N hb z T1; have N := N'; clear N'; have T2 := trivial)
            | (have z := T2; go_at_call 15; refine (b_rfits (l := l0) N.out (HLi.out.below N.out.bel) HLn.out (by omega)).mono ?_; rintro e w8 ⟨rfl, hb⟩; have N' := Lib.hid (N.out.below hb); clear N hb z T2; have N := N'; clear N'; have T3 := trivial)
            | (have z := T3; go_at_call 16; refine (works_any _).mono ?_; rintro e w9 ⟨rfl, hb⟩; have N' := Lib.hid (N.out.below hb); clear N hb z T3; have N := N'; clear N'))
          go_ret
          exact retB rfl N.out.bel
        · have h100i : (100 : Int) < (n0 : Int) := by omega
          have hcap : (100 : Int) ≤ (cap0 : Int) := by omega
          clear h100
          clear hgo hgo2
          have HLi := Lib.hid (H0.out.take 100)
          have HWf := Lib.hid (show WfI (l0.take 100) from fun x hx => HW0.out x (List.mem_of_mem_take hx))
          have HLn := Lib.hid (show (l0.take 100).length = 100 by rw [List.length_take]; have := HN0.out; omega)
          have T1 := trivial
          go_wp2_with (first
            | (have z := T1; go_at_call 14; refine (b_fits (l := (l0.take 100)) N.out (HLi.out.below N.out.bel) HWf.out HLn.out (by omega)).mono ?_; rintro e w7 ⟨rfl, hb⟩; have N' := Lib.hid (N.out.below hb); clear N hb z T1; have N := N'; clear N'; have T2 := trivial)
            | (have z := T2; go_at_call 15; refine (b_rfits (l := (l0.take 100)) N.out (HLi.out.below N.out.bel) HLn.out (by omega)).mono ?_; rintro e w8 ⟨rfl, hb⟩; have N' := Lib.hid (N.out.below hb); clear N hb z T2; have N := N'; clear N'; have T3 := trivial)
            | (have z := T3; go_at_call 16; refine (works_any _).mono ?_; rintro e w9 ⟨rfl, hb⟩; have N' := Lib.hid (N.out.below hb); clear N hb z T3; have N := N'; clear N'))
          go_ret
          exact retB rfl N.out.bel
end Go.Proofs.Ytcgkdomfbkkboaa
