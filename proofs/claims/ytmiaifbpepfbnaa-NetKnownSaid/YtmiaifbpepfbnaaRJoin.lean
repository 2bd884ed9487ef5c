/- The reference: links are cut, joined. -/
import Derived.Test.YtmiaifbpepfbnaaRCut
namespace Go.Proofs.Ytmiaifbpepfbnaa
open Go.RowKit Go.Joins Go.ChangeMaps

theorem erase_idx (c : Pr) : ∀ l : List Pr, l.eraseIdx (l.idxOf c) = l.erase c
  | [] => rfl
  | x :: l => by
    rw [List.idxOf_cons, List.erase_cons]
    cases h : x == c
    · simp [erase_idx c l]
    · simp
theorem pr_own {w : World} {f : Pr} {n : Nat} (hn : n = w.heap.size) : Lst encP 2 (w.alloc (.cells #[.int .i64 f.1, .int .i64 f.2] 60)) (some ⟨n, 0, none⟩) [f] := by
  subst hn
  exact (sli_lit EP w [f] 1 _ 60 rfl rfl (by unfold maxLen; omega)).lst
theorem RUpd.appC {base q : Nat} {v c c2 : Value} {s : St} {w X w' : World} (hb : Below w.heap.size w X) (hm : Mod (fun k => c.ownBlock = some k) X w') (hc2 : ∀ g, c2.ownBlock = some g → c.ownBlock = some g ∨ X.heap.size ≤ g) (hP : RN (w'.setCell ⟨q, 2, none⟩ c2) base q v c2 s) :
    RUpd base q v c s w (w'.setCell ⟨q, 2, none⟩ c2) :=
  ⟨v, c2, hP, ((((Mod.belowAll hb).mono (fun _ _ c => c.elim)).trans (hm.mono fun _ _ hj => .inr (.inr hj))).trans ((mod_setCell q 2 _ _).mono fun _ _ hj => .inl hj)), fun _ hg => .inl hg, fun g hg => (hc2 g hg).imp id (fun c => Nat.le_trans hb.size c)⟩
set_option maxHeartbeats 2000000 in
set_option maxRecDepth 100000 in
theorem rcut_any (base q : Nat) (v c : Value) (s : St) (a b : Int) (w : World) (h : RN w base q v c s) (hbase : base ≤ w.heap.size) (hlen : s.cuts.length ≤ 1000000) :
    Calls Try.prog 35 #[.pointer (some ⟨q, 0, none⟩), .int .i64 a, .int .i64 b] w (RB (cutS s a b).2 (RUpd base q v c (cutS s a b).1 w)) := by
  have hP := Lib.hid h
  have hnode := fun (z : Int) => Lib.hid (node_any q z s.nodes w h.c.1.1)
  have hna := hnode a
  have hnb := hnode b
  have hcut := Lib.hid (rcut_idx base q v c s a b w h)
  have hcb := cutI_b s a b
  have HC := Lib.hid hlen
  clear hnode hlen
  have N1 := trivial
  by_cases ht : twoB s.nodes a b = true
  · have hta := ht
    rw [twoB_node] at hta
    have hA : (decide (0 ≤ a) && decide (a < s.nodes)) = true := by
      cases hz : (decide (0 ≤ a) && decide (a < s.nodes)) <;> simp [hz] at hta ⊢
    have hB : (decide (0 ≤ b) && decide (b < s.nodes)) = true := by
      cases hz : (decide (0 ≤ b) && decide (b < s.nodes)) <;> simp [hz] at hta ⊢
    have hne : a ≠ b := (twoB_spec.1 ht).1
    have hneb : (a == b) = false := by simpa using hne
    rw [hA] at hna
    rw [hB] at hnb
    by_cases hc : cutB s a b = true
    · have hD : Hid (cutS s a b = (s, false)) := by simp [Hid, cutS, hc]
      have hr : 0 ≤ cutI s a b := by rw [hc] at hcb; simpa using hcb
      rw [hD.out]
      clear ht hta hA hB hne hc hcb h
      go_enter Try.func35, Try.ntmps35
      go_wp2_with (first
        | (have z := N1; go_at_call 28; refine hna.out.mono ?_; rintro e w1 ⟨rfl, rfl⟩; clear N1 z; have N2 := trivial)
        | (have z := N2; go_at_call 28; refine hnb.out.mono ?_; rintro e w1 ⟨rfl, rfl⟩; clear N2 z; have N3 := trivial)
        | (have z := N3; go_at_call 39; refine hcut.out.mono ?_; rintro e w1 ⟨rfl, rfl⟩; clear N3 z))
      go_ret
      exact rB rfl (RUpd.same hP.out (Below.refl _ _))
    · have hc' : cutB s a b = false := by simpa using hc
      have hr : cutI s a b < 0 := by rw [hc'] at hcb; simpa using hcb
      have hD : Hid (cutS s a b = ({ s with cuts := s.cuts ++ [lk a b], cnt := s.cnt + 1 }, true)) := by simp [Hid, cutS, hc', ht]
      rw [hD.out]
      have c2 := fun o => keepc' h.c.1.2.2.1 (bel1 w o)
      have c2' := h.c.1.2.2.1
      by_cases hlt : a < b
      · have hle : a ≤ b := Int.le_of_lt hlt
        clear ht hta hA hB hne hc hc' hcb h hD
        have hk : Hid (lk a b = (a, b)) := Prod.ext (show min a b = a by omega) (show max a b = b by omega)
        go_enter Try.func35, Try.ntmps35
        go_wp2_with (first
          | (have z := N1; go_at_call 28; refine hna.out.mono ?_; rintro e w1 ⟨rfl, rfl⟩; clear N1 z; have N2 := trivial)
          | (have z := N2; go_at_call 28; refine hnb.out.mono ?_; rintro e w1 ⟨rfl, rfl⟩; clear N2 z; have N3 := trivial)
          | (have z := N3; go_at_call 39; refine hcut.out.mono ?_; rintro e w1 ⟨rfl, rfl⟩; clear N3 z)
          | (at_builtin; refine wpList_app (v := c) EP TP rfl _ _ rfl rfl (hP.out.ownc.below (bel1 _ _)) (some ⟨_, 0, none⟩) 1 1 [(a, b)] rfl rfl (pr_own (f := (a, b)) rfl) (by simp) (by have := HC.out; simp; omega) (by have := HC.out; unfold maxLen; simp; omega) (Nat.le_trans hbase (by simp)) ?_; intro v' w' ho hgr hat; obtain ⟨a', c', rfl, -, -⟩ := ho.sli EP; have hm := Lib.hid (Mod.grown (S := fun k => c.ownBlock = some k) hgr (fun _ hk => hk)); have hP3 := Lib.hid (hP.out.below (bel1 w (.cells #[.int .i64 a, .int .i64 b] 60))); have d1 := (cell_of (hm.out.heap hP3.out.blk hP3.out.not_own.2.1) 2 rfl).1; have d2 := (cell_of (hm.out.heap hP3.out.blk hP3.out.not_own.2.1) 2 rfl).2))
        go_ret
        refine rB rfl (RUpd.appC (bel1 _ _) hm.out (by simpa using hat) (hP3.out.put2 hm.out hP3.out.not_own.2.1 (fun g hg => hP3.out.not_own.2.2 g hg) (by rw [hk.out]; simpa using ho) ⟨rfl, rfl, rfl, rfl⟩))
      · have hgt : b < a := by omega
        have hle : b ≤ a := Int.le_of_lt hgt
        clear ht hta hA hB hne hc hc' hcb h hD hlt
        have hk : Hid (lk a b = (b, a)) := Prod.ext (show min a b = b by omega) (show max a b = a by omega)
        go_enter Try.func35, Try.ntmps35
        go_wp2_with (first
          | (have z := N1; go_at_call 28; refine hna.out.mono ?_; rintro e w1 ⟨rfl, rfl⟩; clear N1 z; have N2 := trivial)
          | (have z := N2; go_at_call 28; refine hnb.out.mono ?_; rintro e w1 ⟨rfl, rfl⟩; clear N2 z; have N3 := trivial)
          | (have z := N3; go_at_call 39; refine hcut.out.mono ?_; rintro e w1 ⟨rfl, rfl⟩; clear N3 z)
          | (at_builtin; refine wpList_app (v := c) EP TP rfl _ _ rfl rfl (hP.out.ownc.below (bel1 _ _)) (some ⟨_, 0, none⟩) 1 1 [(b, a)] rfl rfl (pr_own (f := (b, a)) rfl) (by simp) (by have := HC.out; simp; omega) (by have := HC.out; unfold maxLen; simp; omega) (Nat.le_trans hbase (by simp)) ?_; intro v' w' ho hgr hat; obtain ⟨a', c', rfl, -, -⟩ := ho.sli EP; have hm := Lib.hid (Mod.grown (S := fun k => c.ownBlock = some k) hgr (fun _ hk => hk)); have hP3 := Lib.hid (hP.out.below (bel1 w (.cells #[.int .i64 b, .int .i64 a] 60))); have d1 := (cell_of (hm.out.heap hP3.out.blk hP3.out.not_own.2.1) 2 rfl).1; have d2 := (cell_of (hm.out.heap hP3.out.blk hP3.out.not_own.2.1) 2 rfl).2))
        go_ret
        refine rB rfl (RUpd.appC (bel1 _ _) hm.out (by simpa using hat) (hP3.out.put2 hm.out hP3.out.not_own.2.1 (fun g hg => hP3.out.not_own.2.2 g hg) (by rw [hk.out]; simpa using ho) ⟨rfl, rfl, rfl, rfl⟩))
  · have ht' : twoB s.nodes a b = false := by simpa using ht
    have hD : Hid (cutS s a b = (s, false)) := by simp [Hid, cutS, ht']
    rw [hD.out]
    rw [twoB_node] at ht'
    by_cases hA : (decide (0 ≤ a) && decide (a < s.nodes)) = true
    · rw [hA] at hna ht'
      by_cases hB : (decide (0 ≤ b) && decide (b < s.nodes)) = true
      · rw [hB] at hnb ht'
        have heq : (a == b) = true := by simpa using ht'
        clear ht ht' hA hB hcb h hD
        go_enter Try.func35, Try.ntmps35
        go_wp2_with (first
          | (have z := N1; go_at_call 28; refine hna.out.mono ?_; rintro e w1 ⟨rfl, rfl⟩; clear N1 z; have N2 := trivial)
          | (have z := N2; go_at_call 28; refine hnb.out.mono ?_; rintro e w1 ⟨rfl, rfl⟩; clear N2 z; have N3 := trivial))
        go_ret
        exact rB rfl (RUpd.same hP.out (Below.refl _ _))
      · have hB' : (decide (0 ≤ b) && decide (b < s.nodes)) = false := by simpa using hB
        rw [hB'] at hnb
        clear ht ht' hA hB hB' hcb h hD
        go_enter Try.func35, Try.ntmps35
        go_wp2_with (first
          | (have z := N1; go_at_call 28; refine hna.out.mono ?_; rintro e w1 ⟨rfl, rfl⟩; clear N1 z; have N2 := trivial)
          | (have z := N2; go_at_call 28; refine hnb.out.mono ?_; rintro e w1 ⟨rfl, rfl⟩; clear N2 z; have N3 := trivial))
        go_ret
        exact rB rfl (RUpd.same hP.out (Below.refl _ _))
    · have hA' : (decide (0 ≤ a) && decide (a < s.nodes)) = false := by simpa using hA
      rw [hA'] at hna
      clear ht ht' hA hA' hcb h hD
      go_enter Try.func35, Try.ntmps35
      go_wp2_with (have z := N1; go_at_call 28; refine hna.out.mono ?_; rintro e w1 ⟨rfl, rfl⟩; clear N1 z; have N2 := trivial)
      go_ret
      exact rB rfl (RUpd.same hP.out (Below.refl _ _))
set_option maxHeartbeats 2000000 in
set_option maxRecDepth 100000 in
theorem rjoin_any (base q : Nat) (v c : Value) (s : St) (a b : Int) (w : World) (h : RN w base q v c s) (hbase : base ≤ w.heap.size) (hlen : s.cuts.length ≤ 1000000) :
    Calls Try.prog 36 #[.pointer (some ⟨q, 0, none⟩), .int .i64 a, .int .i64 b] w (RB (joinS s a b).2 (RUpd base q v c (joinS s a b).1 w)) := by
  have hP := Lib.hid h
  have hcut := Lib.hid (rcut_idx base q v c s a b w h)
  by_cases hm : lk a b ∈ s.cuts
  · have hD : Hid (joinS s a b = ({ s with cuts := s.cuts.erase (lk a b) }, true)) := by simp [Hid, joinS, cutB, hm]
    rw [hD.out]
    have hlt := List.idxOf_lt_length_of_mem hm
    have her := Lib.hid (erase_idx (lk a b) s.cuts)
    have hcI : cutI s a b = ((s.cuts.idxOf (lk a b) : Nat) : Int) := by unfold cutI; rw [if_pos hm]
    rw [hcI] at hcut
    generalize s.cuts.idxOf (lk a b) = i at *
    obtain ⟨g, cap, rfl, hgb, hgw⟩ := h.ownc.form (by omega)
    have hS := h.ownc.slix EP
    have hcm := hS.capm
    have hln := hS.len
    unfold maxLen at hcm
    have c2 := h.c.1.2.2.1
    have hST := Lib.hid ((hS.take i).lst)
    obtain ⟨A, hA, hsrc⟩ : ∃ A : Addr, (if cap = i + 1 then (some ⟨g, 0, none⟩ : Option Addr) else some ⟨g, (i + 1) * 2, none⟩) = some A ∧ Hid (Lst encP 2 w (some A) (s.cuts.drop (i + 1))) := by
      by_cases hc : cap = i + 1
      · refine ⟨⟨g, 0, none⟩, by simp [hc], fun j hj => ?_⟩
        simp at hj
        omega
      · refine ⟨⟨g, (i + 1) * 2, none⟩, by simp [hc], ?_⟩
        have := Lst.drop hS.lst (i + 1)
        rw [Nat.zero_add] at this
        exact this
    have hl1 := Lib.hid (show (s.cuts.take i).length = i by simp; omega)
    have hl2 := Lib.hid (show (s.cuts.drop (i + 1)).length = s.cuts.length - (i + 1) by simp)
    have HL := Lib.hid hlen
    have hHI := Lib.hid hlt
    have hic : i ≤ cap := by omega
    have hic1 : i + 1 ≤ cap := by omega
    have hin : i + 1 ≤ s.cuts.length := by omega
    have hii : (0 : Int) ≤ (i : Int) := by omega
    have hii1 : (0 : Int) ≤ (i : Int) + 1 := by omega
    clear h hm hlen hS hcI hlt hD
    go_enter Try.func36, Try.ntmps36
    have N1 := trivial
    go_wp2_with (first
      | (go_at_call 39; refine hcut.out.mono ?_; rintro e w1 ⟨rfl, rfl⟩)
      | (have z := N1; at_builtin; refine wpList_app (v := .slice none 0 0) (xs := []) (base := w.heap.size) EP TP rfl _ _ rfl rfl (ownL_nil _ _) (some ⟨g, 0, none⟩) i cap (s.cuts.take i) hl1.out rfl hST.out (by simp) (by have := hl1.out; have := HL.out; have := hHI.out; simp; omega) (by have := hl1.out; have := HL.out; have := hHI.out; unfold maxLen; simp; omega) (Nat.le_refl _) ?_; intro v1 w1 ho1 hgr1 hat1; have hB1 := Lib.hid ((Below.refl w.heap.size w).grown hgr1 (Nat.le_refl _) (fun j hj => by cases hj)); have hO1 := Lib.hid ho1; have c3 := keepc' c2 hB1.out; clear ho1 hgr1 hat1 N1 z; have N2 := trivial)
      | (have z := N2; at_builtin; refine wpList_app (v := v1) (base := w.heap.size) EP TP rfl _ _ rfl rfl hO1.out (some A) (s.cuts.length - (i + 1)) (cap - (i + 1)) (s.cuts.drop (i + 1)) hl2.out rfl (hsrc.out.below hB1.out) (by simp) (by have := hl1.out; have := hl2.out; have := HL.out; have := hHI.out; simp; omega) (by have := hl1.out; have := hl2.out; have := HL.out; have := hHI.out; unfold maxLen; simp; omega) hB1.out.size ?_; intro v2 w2 ho2 hgr2 hat2; have hB2 := Lib.hid (hB1.out.grown hgr2 hB1.out.size (fun j hj => (World.ownsRow.lt hO1.out j hj).1)); have hO2 := Lib.hid ho2; have hPw := Lib.hid (hP.out.below hB2.out); have y2 := hPw.out.c.2 2 (by omega); have y3 := keepc' c2 hB2.out; obtain ⟨a', c', rfl, -, -⟩ := ho2.sli EP; clear ho2 hgr2 hat2 N2 z))
    go_ret
    refine rB rfl ⟨v, _, hPw.out.put2 (S := fun _ => False) (s' := { s with cuts := s.cuts.erase (lk a b) }) (Mod.refl _ w2) (fun c => c) (fun _ _ c => c) ?_ ⟨rfl, rfl, rfl, rfl⟩, ((Mod.belowAll hB2.out).mono (fun _ _ c => c.elim)).trans ((mod_setCell q 2 w2 _).mono fun _ _ hj => .inl hj), fun _ hg => .inl hg, fun g hg => .inr (World.ownsRow.lt hO2.out g (by simpa using hg)).1⟩
    rw [show s.cuts.erase (lk a b) = s.cuts.take i ++ s.cuts.drop (i + 1) by rw [← her.out]; exact eraseIdx_eq _ _]
    have := hO2.out.mono hbase
    simpa using this
  · have hc : cutB s a b = false := by simp [cutB, hm]
    have hD : Hid (joinS s a b = (s, false)) := by simp [Hid, joinS, hc]
    have hr : cutI s a b < 0 := by simp [cutI, hm]
    rw [hD.out]
    clear hm hc h hlen
    go_enter Try.func36, Try.ntmps36
    go_wp2_with (go_at_call 39; refine hcut.out.mono ?_; rintro e w1 ⟨rfl, rfl⟩)
    go_ret
    exact rB rfl (RUpd.same hP.out (Below.refl _ _))
end Go.Proofs.Ytmiaifbpepfbnaa
