/- A frame is taken. -/
import Derived.Test.YtmiaifbpepfbnaaTake
import Derived.Test.YtmiaifbpepfbnaaLater
namespace Go.Proofs.Ytmiaifbpepfbnaa
open Go.RowKit Go.Joins Go.ChangeMaps

def RT (v : Value) (R : World → Prop) (e : Ending) (w' : World) : Prop := e = .returned v ∧ R w'
theorem PUpd.then {base p bm : Nat} {v : Value} {s : St} {w w2 w' : World} (h : PUpd base p bm v s w w2) (hb : Below w2.heap.size w2 w') : PUpd base p bm v s w w' := by
  obtain ⟨v', h1, h2, h3⟩ := h
  exact ⟨v', h1.below hb, h2.trans ((Mod.belowAll hb).mono (fun _ _ c => c.elim)), h3⟩
def PUpd' (p bm : Nat) (v v' : Value) (w w' : World) : Prop := Mod (PF p bm v) w w' ∧ ∀ g, v'.ownBlock = some g → v.ownBlock = some g ∨ w.heap.size ≤ g
theorem PUpd'.from {p bm : Nat} {v v' : Value} {w w2 w' : World} (hb : Below w.heap.size w w2) (h : PUpd' p bm v v' w2 w') : PUpd' p bm v v' w w' :=
  ⟨((Mod.belowAll hb).mono (fun _ _ c => c.elim)).trans h.1, fun g hg => (h.2 g hg).imp id (fun c => Nat.le_trans hb.size c)⟩
theorem PUpd.fin {base p bm : Nat} {v v' : Value} {s : St} {w w2 Y : World} (h : PUpd' p bm v v' w w2) (h2 : PN w2 base p bm v' s) (hr : ∀ k, PF p bm v' k → k ≠ w.heap.size) (hy : Below w2.heap.size w2 Y) (a b c : Value) :
    PUpd base p bm v s w (((Y.setCell ⟨w.heap.size, 0, none⟩ a).setCell ⟨w.heap.size, 1, none⟩ b).setCell ⟨w.heap.size, 2, none⟩ c) := by
  have hm : Mod (fun k => k = w.heap.size) Y (((Y.setCell ⟨w.heap.size, 0, none⟩ a).setCell ⟨w.heap.size, 1, none⟩ b).setCell ⟨w.heap.size, 2, none⟩ c) := ((mod_setCell _ 0 _ _).trans (mod_setCell _ 1 _ _)).trans (mod_setCell _ 2 _ _)
  refine ⟨v', (h2.below hy).mod hm hr, ?_, h.2⟩
  exact (h.1.trans ((Mod.belowAll hy).mono (fun _ _ c => c.elim))).then hm (fun i hi e => by omega)
def tkV (r : Fr × Bool) : Value := .tuple #[frV r.1, .bool r.2]
theorem res_all {w1 : World} {rb : Nat} {a b c : Value} (h : w1.heap[rb]? = some (.cells #[a, b, c] 31 (0, 0))) : (∀ o, (w1.alloc o).heap[rb]? = some (.cells #[a, b, c] 31 (0, 0))) ∧ (∀ o, (w1.alloc o).cell? ⟨rb, 0, none⟩ = some a) ∧ (∀ o, (w1.alloc o).cell? ⟨rb, 1, none⟩ = some b) ∧ (∀ o, (w1.alloc o).cell? ⟨rb, 2, none⟩ = some c) ∧
    (∀ o, (w1.alloc o).frozen? ⟨rb, 0, none⟩ = false) ∧ (∀ o, (w1.alloc o).frozen? ⟨rb, 1, none⟩ = false) ∧ (∀ o, (w1.alloc o).frozen? ⟨rb, 2, none⟩ = false) := by
  have hh : ∀ o, (w1.alloc o).heap[rb]? = some (.cells #[a, b, c] 31 (0, 0)) := fun o => blk_below h (bel1 w1 o)
  exact ⟨hh, fun o => (cell_of (hh o) 0 rfl).1, fun o => (cell_of (hh o) 1 rfl).1, fun o => (cell_of (hh o) 2 rfl).1, fun o => (cell_of (v := a) (hh o) 0 rfl).2, fun o => (cell_of (v := b) (hh o) 1 rfl).2, fun o => (cell_of (v := c) (hh o) 2 rfl).2⟩
theorem set3_blk {X : World} {rb : Nat} {a b c a' b' c' : Value} (h : X.heap[rb]? = some (.cells #[a, b, c] 31 (0, 0))) : (((X.setCell ⟨rb, 0, none⟩ a').setCell ⟨rb, 1, none⟩ b').setCell ⟨rb, 2, none⟩ c').heap[rb]? = some (.cells #[a', b', c'] 31 (0, 0)) :=
  setCell_blk (setCell_blk (setCell_blk h))
theorem set3_below {w X : World} {rb : Nat} (a' b' c' : Value) (h : Below w.heap.size w X) (hr : w.heap.size ≤ rb) : Below w.heap.size w (((X.setCell ⟨rb, 0, none⟩ a').setCell ⟨rb, 1, none⟩ b').setCell ⟨rb, 2, none⟩ c') :=
  ((h.setCell (p := ⟨rb, 0, none⟩) hr _).setCell (p := ⟨rb, 1, none⟩) hr _).setCell (p := ⟨rb, 2, none⟩) hr _
set_option maxHeartbeats 2000000 in
set_option maxRecDepth 100000 in
theorem take_any (base p bm : Nat) (v : Value) (s : St) (k : Int) (w : World) (h : PN w base p bm v s) (hg : Good s) :
    Calls Try.prog 17 #[.pointer (some ⟨p, 0, none⟩), .int .i64 k] w (RT (tkV (takeS s k).2) (PUpd base p bm v (takeS s k).1 w)) := by
  have hB0 := Lib.hid (bel1 w (.cells #[.int .i64 0, .int .i64 0, .string ⟨#[]⟩] 31))
  have hr0 : Hid ((w.alloc (.cells #[.int .i64 0, .int .i64 0, .string ⟨#[]⟩] 31)).heap[w.heap.size]? = some (.cells #[.int .i64 0, .int .i64 0, .string ⟨#[]⟩] 31 (0, 0))) := heap_alloc_new w _
  by_cases hk : inB s k = true
  · have hk' := hk
    simp [inB] at hk'
    obtain ⟨i, rfl⟩ := Int.eq_ofNat_of_zero_le hk'.1
    have hi : i < s.fl.length := by omega
    have hfl := hg.fl _ (getD_mem hi)
    have hn6 := hg.n6.2
    have ha0 := at_in base p bm v s i _ (h.below hB0.out) hi
    have hP := Lib.hid (h.below hB0.out)
    have hI := Lib.hid hi
    have hD : takeS s (i : Int) = (leaveS s i, if cutB s (s.fl.getD i default).1 (s.fl.getD i default).2.1 = true then (nof, false) else (s.fl.getD i default, true)) := by simp [takeS, hk]
    rw [hD]
    generalize s.fl.getD i default = f at *
    obtain ⟨f0, f1, f2⟩ := f
    simp only [frV] at ha0 hfl
    have hrange := lk_range hfl.1
    have ha := Lib.hid ha0
    have hlt := Lib.hid (fun k c => (h.lt k c).2)
    have hlk : ∀ W, MapAt W bm (leaveS s i) → (Instr.lookup 51 (.map (some bm)) (.agg #[.int .i64 (lk f0 f1).1, .int .i64 (lk f0 f1).2]) false).run Try.prog W = .ok (.bool (cutB s f0 f1)) W := fun W hW => map_look hW (lk f0 f1) ⟨hrange.1, hrange.2.1, by omega⟩
    clear hk hk' hi h ha0 hD hfl hrange hn6 hg
    by_cases hc : cutB s f0 f1 = true
    · rw [if_pos hc]
      rw [hc] at hlk
      clear hc
      have HLK := Lib.hid hlk
      clear hlk
      go_enter Try.func17, Try.ntmps17
      go_wp2_with (first
        | (go_at_call 29; refine ha.out.mono ?_; rintro e w1 ⟨rfl, hb⟩; have hB := Lib.hid hb; clear hb; have hr1 := Lib.hid ((hB.out.block _ (blk_lt hr0.out)).trans hr0.out); have hX1 := Lib.hid (bel1 w1 (.cells #[.int .i64 f0, .int .i64 f1, .string f2] 31)); have hnb := Lib.hid (heap_alloc_new w1 (.cells #[.int .i64 f0, .int .i64 f1, .string f2] 31)); have hX2 := Lib.hid (bel1 (w1.alloc (.cells #[.int .i64 f0, .int .i64 f1, .string f2] 31)) (.cells #[.int .i64 (i : Int)] 3)))
        | (go_at_call 32; refine (leave_any base p bm _ _ v s i _ (hP.out.below (grew_trans hB.out (grew_trans hX1.out hX2.out))) hI.out (cellN _ _ _ _ _ _ (by simp) rfl)).mono ?_; rintro e w2 ⟨rfl, v', hPN2, hM2, hv2⟩))
      have hsz := Lib.hid (show w.heap.size < w1.heap.size from Nat.lt_of_lt_of_le (by simp) hB.out.size)
      have hrb2 := Lib.hid (hM2.heap (blk_below (blk_below hr1.out hX1.out) hX2.out) (fun c => absurd (hlt.out _ c) (Nat.lt_irrefl _)))
      have hnb2 := Lib.hid (hM2.heap (blk_below hnb.out hX2.out) (fun c => absurd (hlt.out _ c) (by have := hsz.out; omega)))
      have hU := Lib.hid (PUpd'.from (v' := v') (grew_trans hB0.out (grew_trans hB.out (grew_trans hX1.out hX2.out))) ⟨hM2, hv2⟩)
      have hP2 := Lib.hid hPN2
      have hrF : Hid (∀ k, PF p bm v' k → k ≠ w.heap.size) := by
        rintro k c rfl
        rcases c with c | c | c
        · exact absurd (hlt.out _ (.inl c)) (Nat.lt_irrefl _)
        · exact absurd (hlt.out _ (.inr (.inl c))) (Nat.lt_irrefl _)
        · rcases hv2 _ c with c | c
          · exact absurd (hlt.out _ (.inr (.inr c))) (Nat.lt_irrefl _)
          · have h1 := hsz.out
            simp at c
            omega
      clear hPN2 hM2 hv2 hnb hr1
      have hrw := Lib.hid (Nat.le_of_lt hsz.out)
      generalize w1.heap.size = nb at *
      have l0 := fun y : Later w2 => y.cell hP2.out.c.1.2.2.1
      have l1 := fun y : Later w2 => y.cell (cell_of hnb2.out 0 (v := .int .i64 f0) rfl).1
      have l2 := fun y : Later w2 => y.cell (cell_of hnb2.out 1 (v := .int .i64 f1) rfl).1
      have l3 := fun y : Later w2 => HLK.out y.w (hP2.out.below y.h).map
      refine wp_region_later_lit (by kernel_rfl) (by kernel_rfl) ?_
      repeat (any_goals (first | go_big_quiet_step ((go_at_call 31; exact Calls.later (link_any _ _ _))) | quiet_step ((go_at_call 31; exact Calls.later (link_any _ _ _)))))
      refine wpQuiet_nil ?_
      intro _ hw'
      obtain ⟨y, hw''⟩ := hw'
      subst hw''
      have hy := Lib.hid y.h
      have hrb3 := Lib.hid (blk_below hrb2.out hy.out)
      have hnb3 := Lib.hid (blk_below hnb2.out hy.out)
      clear l0 l1 l2 l3 HLK
      generalize y.w = Y at *
      obtain ⟨d0, q0⟩ := cell_of hrb3.out 0 (v := .int .i64 0) rfl
      obtain ⟨d1, q1⟩ := cell_of hrb3.out 1 (v := .int .i64 0) rfl
      obtain ⟨d2, q2⟩ := cell_of hrb3.out 2 (v := .string ⟨#[]⟩) rfl
      obtain ⟨m0, -⟩ := cell_of hnb3.out 0 (v := .int .i64 f0) rfl
      obtain ⟨m1, -⟩ := cell_of hnb3.out 1 (v := .int .i64 f1) rfl
      obtain ⟨m2, -⟩ := cell_of hnb3.out 2 (v := .string f2) rfl
      go_wp2
      refine bodyPost_ret (results_fr rfl _ _ w.heap.size _ (0, 0) rfl rfl (set3_blk hrb3.out)) rfl ?_
      refine ⟨rfl, ?_⟩
      exact PUpd.fin hU.out hP2.out hrF.out hy.out _ _ _
    · rw [if_neg hc]
      have hc' : cutB s f0 f1 = false := by simpa using hc
      rw [hc'] at hlk
      clear hc'
      clear hc
      have HLK := Lib.hid hlk
      clear hlk
      go_enter Try.func17, Try.ntmps17
      go_wp2_with (first
        | (go_at_call 29; refine ha.out.mono ?_; rintro e w1 ⟨rfl, hb⟩; have hB := Lib.hid hb; clear hb; have hr1 := Lib.hid ((hB.out.block _ (blk_lt hr0.out)).trans hr0.out); have hX1 := Lib.hid (bel1 w1 (.cells #[.int .i64 f0, .int .i64 f1, .string f2] 31)); have hnb := Lib.hid (heap_alloc_new w1 (.cells #[.int .i64 f0, .int .i64 f1, .string f2] 31)); have hX2 := Lib.hid (bel1 (w1.alloc (.cells #[.int .i64 f0, .int .i64 f1, .string f2] 31)) (.cells #[.int .i64 (i : Int)] 3)))
        | (go_at_call 32; refine (leave_any base p bm _ _ v s i _ (hP.out.below (grew_trans hB.out (grew_trans hX1.out hX2.out))) hI.out (cellN _ _ _ _ _ _ (by simp) rfl)).mono ?_; rintro e w2 ⟨rfl, v', hPN2, hM2, hv2⟩))
      have hsz := Lib.hid (show w.heap.size < w1.heap.size from Nat.lt_of_lt_of_le (by simp) hB.out.size)
      have hrb2 := Lib.hid (hM2.heap (blk_below (blk_below hr1.out hX1.out) hX2.out) (fun c => absurd (hlt.out _ c) (Nat.lt_irrefl _)))
      have hnb2 := Lib.hid (hM2.heap (blk_below hnb.out hX2.out) (fun c => absurd (hlt.out _ c) (by have := hsz.out; omega)))
      have hU := Lib.hid (PUpd'.from (v' := v') (grew_trans hB0.out (grew_trans hB.out (grew_trans hX1.out hX2.out))) ⟨hM2, hv2⟩)
      have hP2 := Lib.hid hPN2
      have hrF : Hid (∀ k, PF p bm v' k → k ≠ w.heap.size) := by
        rintro k c rfl
        rcases c with c | c | c
        · exact absurd (hlt.out _ (.inl c)) (Nat.lt_irrefl _)
        · exact absurd (hlt.out _ (.inr (.inl c))) (Nat.lt_irrefl _)
        · rcases hv2 _ c with c | c
          · exact absurd (hlt.out _ (.inr (.inr c))) (Nat.lt_irrefl _)
          · have h1 := hsz.out
            simp at c
            omega
      clear hPN2 hM2 hv2 hnb hr1
      have hrw := Lib.hid (Nat.le_of_lt hsz.out)
      generalize w1.heap.size = nb at *
      have l0 := fun y : Later w2 => y.cell hP2.out.c.1.2.2.1
      have l1 := fun y : Later w2 => y.cell (cell_of hnb2.out 0 (v := .int .i64 f0) rfl).1
      have l2 := fun y : Later w2 => y.cell (cell_of hnb2.out 1 (v := .int .i64 f1) rfl).1
      have l3 := fun y : Later w2 => HLK.out y.w (hP2.out.below y.h).map
      refine wp_region_later_lit (by kernel_rfl) (by kernel_rfl) ?_
      repeat (any_goals (first | go_big_quiet_step ((go_at_call 31; exact Calls.later (link_any _ _ _))) | quiet_step ((go_at_call 31; exact Calls.later (link_any _ _ _)))))
      refine wpQuiet_nil ?_
      intro _ hw'
      obtain ⟨y, hw''⟩ := hw'
      subst hw''
      have hy := Lib.hid y.h
      have hrb3 := Lib.hid (blk_below hrb2.out hy.out)
      have hnb3 := Lib.hid (blk_below hnb2.out hy.out)
      clear l0 l1 l2 l3 HLK
      generalize y.w = Y at *
      obtain ⟨d0, q0⟩ := cell_of hrb3.out 0 (v := .int .i64 0) rfl
      obtain ⟨d1, q1⟩ := cell_of hrb3.out 1 (v := .int .i64 0) rfl
      obtain ⟨d2, q2⟩ := cell_of hrb3.out 2 (v := .string ⟨#[]⟩) rfl
      obtain ⟨m0, -⟩ := cell_of hnb3.out 0 (v := .int .i64 f0) rfl
      obtain ⟨m1, -⟩ := cell_of hnb3.out 1 (v := .int .i64 f1) rfl
      obtain ⟨m2, -⟩ := cell_of hnb3.out 2 (v := .string f2) rfl
      go_wp2
      refine bodyPost_ret (results_fr rfl _ _ w.heap.size _ (0, 0) rfl rfl (set3_blk hrb3.out)) rfl ?_
      refine ⟨rfl, ?_⟩
      exact PUpd.fin hU.out hP2.out hrF.out hy.out _ _ _
  · have hk' : inB s k = false := by simpa using hk
    have ha0 := at_out base p bm v s k _ (h.below hB0.out) hk'
    simp only [frV, nof] at ha0
    have ha := Lib.hid ha0
    have hP := Lib.hid h
    have hD : Hid (takeS s k = (s, nof, false)) := by simp [Hid, takeS, hk]
    rw [hD.out]
    clear hk hk' h ha0 hg
    go_enter Try.func17, Try.ntmps17
    go_wp2_with (go_at_call 29; refine ha.out.mono ?_; rintro e w1 ⟨rfl, hb⟩; have hB := Lib.hid hb; clear hb; obtain ⟨hh, d0, d1, d2, q0, q1, q2⟩ := res_all ((hB.out.block _ (blk_lt hr0.out)).trans hr0.out); have hH := Lib.hid hh; clear hh)
    refine bodyPost_ret (results_fr rfl _ _ w.heap.size _ (0, 0) rfl rfl (set3_blk (hH.out _))) rfl ?_
    exact ⟨rfl, PUpd.same hP.out (set3_below _ _ _ (grew_trans hB0.out (grew_trans hB.out (bel1 _ _))) (Nat.le_refl _))⟩
end Go.Proofs.Ytmiaifbpepfbnaa
