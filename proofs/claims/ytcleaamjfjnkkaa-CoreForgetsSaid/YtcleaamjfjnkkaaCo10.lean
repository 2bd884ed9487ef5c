/- A voter leads from now on. -/
import Derived.Test.YtcleaamjfjnkkaaCo9
namespace Go.Proofs.Ytcleaamjfjnkkaa
open Go.RowKit Go.Joins

theorem CAt.more {w V : World} {base p : Nat} {lv ov tv lv' : Value} {os : List RM} {c : Co} {es : List Ent} (h : CAt w base p lv ov tv os c) (ho : OwnE V base lv' es) (hg : w.grownBy V lv.ownBlock) (hf : ∀ g, lv'.ownBlock = some g → lv.ownBlock = some g ∨ w.heap.size ≤ g) :
    CUpd base p lv ov tv { c with log := es } w (V.setCell ⟨p, 3, none⟩ lv') := by
  have hm : Mod (fun k => lv.ownBlock = some k) w V := Mod.grown hg (fun k e => e)
  obtain ⟨n1, n2, n3⟩ := h.nots
  have hblk := hm.heap h.blk n1
  have hM : Mod (fun k => k = p) V (V.setCell ⟨p, 3, none⟩ lv') := Mod.cellOf p 3 lv'
  have hn : lv'.ownBlock ≠ some p := ownR_not ho hblk (fun cs e => by simp at e)
  have hmod : Mod (CF p lv ov tv) w (V.setCell ⟨p, 3, none⟩ lv') := (hm.mono (fun _ _ e => .inr (.inl e))).then hM (fun i _ e => .inl e)
  have hfr : ∀ k, CF p lv' ov tv k → CF p lv ov tv k ∨ w.heap.size ≤ k := by
    rintro k (d | d | d | d)
    · exact .inl (.inl d)
    · exact (hf k d).imp (fun e => .inr (.inl e)) id
    · exact .inl (.inr (.inr (.inl d)))
    · exact .inl (.inr (.inr (.inr d)))
  refine ⟨lv', ov, tv, os, { blk := ?_, bp := h.bp, log := hM.own ho (fun g hg e => hn (e ▸ hg)), out := hM.own (hm.own h.out (fun g hg e => (h.apart.1 g e).1 hg)) (fun g hg e => n2 (e ▸ hg)), dst := hM.own (hm.own h.dst (fun g hg e => (h.apart.1 g e).2 hg)) (fun g hg e => n3 (e ▸ hg)), ghl := Nat.le_trans h.ghl hmod.size, eq := h.eq, ents := fun x hx => (h.ents x hx).mod (hmod.mono (fun _ _ e => .inl e)) (sf_step rfl hfr) }, hmod, hfr⟩
  rw [setCell_blk hblk]; rfl
theorem litE (w : World) (x : Ent) : Lst encE 4 (w.alloc (.cells #[.int .u64 x.1, .int .i64 x.2.1, .int .u64 x.2.2.1, .int .u64 x.2.2.2] 30)) (some ⟨w.heap.size, 0, none⟩) [x] := (sli_lit EE w [x] 1 _ 30 rfl rfl (by unfold maxLen; omega)).lst
theorem ent_others {w : World} {base p : Nat} {lv ov tv : Value} {os : List RM} {c : Co} (h : CAt w base p lv ov tv os c)
    (hn : ∀ v, v < 3 → 1 ≤ (c.pr v).next ∧ (c.pr v).next ≤ (c.log.length : Int) + 1) (hlen : c.log.length ≤ 300) (hl : c.out.length ≤ 90) (hd : c.dest.length ≤ 90) :
    Calls Try.prog 36 #[.pointer (some ⟨p, 0, none⟩), .func (.func 39) #[.pointer (some ⟨p, 0, none⟩)] #[]] w (Tup0 (CUpd base p lv ov tv (Co.others Co.entries c) w)) := by
  have hS : ∀ n, Snd c (part Co.entries c n) := part_inv (P := Snd c) (f := Co.entries) (fun d v h => snd_entries h v) ⟨rfl, rfl, trivial, fun _ => ⟨rfl, rfl⟩⟩
  have hol : ∀ n, (part Co.entries c n).out.length ≤ c.out.length + n := part_grow (fun d => d.out.length) (fun d v => by rw [(entries_len d v).1]; exact Nat.le_refl _) c
  have hdl : ∀ n, (part Co.entries c n).dest.length ≤ c.dest.length + n := part_grow (fun d => d.dest.length) (fun d v => by rw [(entries_len d v).2]; exact Nat.le_refl _) c
  rw [← part_3]
  refine others_ent (me := c.me) (.pointer (some ⟨p, 0, none⟩)) (fun v w1 => CUpd base p lv ov tv (part Co.entries c v) w w1) (fun v w1 hI => ?_) (fun v w1 hv he hI => ?_) (fun v w1 hv he hI => ?_) w (h.stay (Below.refl _ _))
  · obtain ⟨lv1, ov1, tv1, os1, h1, -, -⟩ := hI
    have := h1.toCL.cells.1.1
    rwa [(hS v).me] at this
  · rw [part_skip (by rw [(hS v).me]; exact he)]; exact hI
  · obtain ⟨lv1, ov1, tv1, os1, h1, m1, f1⟩ := hI
    rw [part_step (by rw [(hS v).me]; exact he)]
    exact (entries_any v hv h1 (by rw [((hS v).nx v).1]; exact (hn v hv).1) (by rw [((hS v).nx v).1, (hS v).log]; exact (hn v hv).2) (by rw [(hS v).log]; exact hlen) (by have := hol v; omega) (by have := hdl v; omega)).mono fun e w2 ⟨he, hu⟩ => ⟨he, CUpd.then m1 f1 hu⟩
def LeadS (p : Nat) (lv : Value) (t : Int) (w' : World) : Prop := w'.cell? ⟨p, 3, none⟩ = some lv ∧ w'.cell? ⟨p, 1, none⟩ = some (.int .u64 t)
theorem leadS_bel {p : Nat} {lv : Value} {t : Int} {w w' : World} (h : LeadS p lv t w) (hb : Below w.heap.size w w') : LeadS p lv t w' := ⟨keepc' h.1 hb, keepc' h.2 hb⟩
def leadC (c : Co) (i : Nat) : Co := { c with role := 2, head := c.me, pr := fun k => if k < i then Co.newPr c.log.length else c.pr k }
set_option linter.unusedSimpArgs false in
set_option linter.unusedVariables false in
set_option maxHeartbeats 8000000 in
set_option maxRecDepth 100000 in
theorem lead_any {w : World} {base p : Nat} {lv ov tv : Value} {os : List RM} {c : Co} (h : CAt w base p lv ov tv os c) (ok : Ok c) (hl : c.out.length ≤ 90) (hd : c.dest.length ≤ 90) :
    Calls Try.prog 63 #[.pointer (some ⟨p, 0, none⟩)] w (Tup0 (CUpd base p lv ov tv c.lead w)) := by
  have mixed : Try.prog.follows .mixedOrders = true := by kernel_rfl
  obtain ⟨⟨g0, g1, -, g3, -, g5, g6, -⟩, gf⟩ := h.toCL.cells
  have f5 := gf 5
  have f6 := gf 6
  obtain ⟨la, lc, hv, hsl, -⟩ := own_sl h.log
  subst hv
  have H0 := Lib.hid (h.put (c' := leadC c 0) (w' := (w.setCell ⟨p, 5, none⟩ (.int .i64 2)).setCell ⟨p, 6, none⟩ (.int .i64 c.me)) (by rw [setCell_blk (setCell_blk h.blk)]; rfl) ((Mod.cellOf p 5 _).trans (Mod.cellOf p 6 _)) rfl rfl rfl)
  have HM0 := Lib.hid (show Mod (fun k => k = p) w ((w.setCell ⟨p, 5, none⟩ (.int .i64 2)).setCell ⟨p, 6, none⟩ (.int .i64 c.me)) from (Mod.cellOf p 5 _).trans (Mod.cellOf p 6 _))
  have HL := Lib.hid (And.intro ok.log (And.intro hl hd))
  have hn3 : (c.log.length : Int) ≤ 300 := by have := ok.log; omega
  have HOK := Lib.hid ok
  clear gf h hsl hl hd ok
  go_enter Try.func63, Try.ntmps63
  go_wp2
  go_loopg [3, 20] 3 (fun k _ v20 wr => ∃ i : Nat, i + k = 3 ∧ v20 = .int .i64 (i : Int) ∧ CAt wr base p (.slice la c.log.length lc) ov tv os (leadC c i) ∧ Mod (fun k => k = p) w wr)
  case atStart => exact ⟨0, rfl, rfl, H0.out, HM0.out⟩
  case round =>
    obtain ⟨i, hik, rfl, hC, hM⟩ := hrel
    clear H0 HM0 g0 g1 g3 g5 g6 f5 f6
    have C := Lib.hid hC
    have M := Lib.hid hM
    clear hC hM
    by_cases hlt : i < 3
    · have hli : (i : Int) < 3 := by omega
      obtain rfl | rfl | rfl : i = 0 ∨ i = 1 ∨ i = 2 := by omega
      · obtain ⟨k0, kf0⟩ := cell_of C.out.blk 11 rfl
        obtain ⟨k1, kf1⟩ := cell_of C.out.blk 12 rfl
        obtain ⟨k2, kf2⟩ := cell_of C.out.blk 13 rfl
        obtain ⟨k3, kf3⟩ := cell_of C.out.blk 14 rfl
        obtain ⟨k4, kf4⟩ := cell_of C.out.blk 15 rfl
        obtain ⟨k5, kf5⟩ := cell_of C.out.blk 16 rfl
        go_wp2
        go_roundg (gk - 1)
        case measure => omega
        case rel => exact ⟨1, by omega, rfl, C.out.put (by rw [setCell_blk (setCell_blk (setCell_blk (setCell_blk (setCell_blk (setCell_blk C.out.blk)))))]; rfl) ((((((Mod.cellOf p 11 _).trans (Mod.cellOf p 12 _)).trans (Mod.cellOf p 13 _)).trans (Mod.cellOf p 14 _)).trans (Mod.cellOf p 15 _)).trans (Mod.cellOf p 16 _)) rfl rfl rfl, M.out.trans ((((((Mod.cellOf p 11 _).trans (Mod.cellOf p 12 _)).trans (Mod.cellOf p 13 _)).trans (Mod.cellOf p 14 _)).trans (Mod.cellOf p 15 _)).trans (Mod.cellOf p 16 _))⟩
      · obtain ⟨k0, kf0⟩ := cell_of C.out.blk 17 rfl
        obtain ⟨k1, kf1⟩ := cell_of C.out.blk 18 rfl
        obtain ⟨k2, kf2⟩ := cell_of C.out.blk 19 rfl
        obtain ⟨k3, kf3⟩ := cell_of C.out.blk 20 rfl
        obtain ⟨k4, kf4⟩ := cell_of C.out.blk 21 rfl
        obtain ⟨k5, kf5⟩ := cell_of C.out.blk 22 rfl
        go_wp2
        go_roundg (gk - 1)
        case measure => omega
        case rel => exact ⟨2, by omega, rfl, C.out.put (by rw [setCell_blk (setCell_blk (setCell_blk (setCell_blk (setCell_blk (setCell_blk C.out.blk)))))]; rfl) ((((((Mod.cellOf p 17 _).trans (Mod.cellOf p 18 _)).trans (Mod.cellOf p 19 _)).trans (Mod.cellOf p 20 _)).trans (Mod.cellOf p 21 _)).trans (Mod.cellOf p 22 _)) rfl rfl rfl, M.out.trans ((((((Mod.cellOf p 17 _).trans (Mod.cellOf p 18 _)).trans (Mod.cellOf p 19 _)).trans (Mod.cellOf p 20 _)).trans (Mod.cellOf p 21 _)).trans (Mod.cellOf p 22 _))⟩
      · obtain ⟨k0, kf0⟩ := cell_of C.out.blk 23 rfl
        obtain ⟨k1, kf1⟩ := cell_of C.out.blk 24 rfl
        obtain ⟨k2, kf2⟩ := cell_of C.out.blk 25 rfl
        obtain ⟨k3, kf3⟩ := cell_of C.out.blk 26 rfl
        obtain ⟨k4, kf4⟩ := cell_of C.out.blk 27 rfl
        obtain ⟨k5, kf5⟩ := cell_of C.out.blk 28 rfl
        go_wp2
        go_roundg (gk - 1)
        case measure => omega
        case rel => exact ⟨3, by omega, rfl, C.out.put (by rw [setCell_blk (setCell_blk (setCell_blk (setCell_blk (setCell_blk (setCell_blk C.out.blk)))))]; rfl) ((((((Mod.cellOf p 23 _).trans (Mod.cellOf p 24 _)).trans (Mod.cellOf p 25 _)).trans (Mod.cellOf p 26 _)).trans (Mod.cellOf p 27 _)).trans (Mod.cellOf p 28 _)) rfl rfl rfl, M.out.trans ((((((Mod.cellOf p 23 _).trans (Mod.cellOf p 24 _)).trans (Mod.cellOf p 25 _)).trans (Mod.cellOf p 26 _)).trans (Mod.cellOf p 27 _)).trans (Mod.cellOf p 28 _))⟩
    · obtain rfl : i = 3 := by omega
      have HS0 := Lib.hid (show LeadS p (.slice la c.log.length lc) c.term wr from ⟨C.out.toCL.cells.1.2.2.2.1, C.out.toCL.cells.1.2.1⟩)
      have kk := C.out.toCL.cells.1.2.2.2.1
      have kf := C.out.toCL.cells.2 3
      by_cases h300 : c.log.length < 300
      · have h3i : (c.log.length : Int) < 300 := by omega
        have HLD := Lib.hid (show c.lead = Co.others Co.entries { leadC c 3 with log := c.log ++ [(c.term, 1, 0, 0)] } by unfold Co.lead leadC; rw [if_pos h300])
        go_upto_region 8 with fail
        obtain ⟨Y, hY⟩ : ∃ Y, Y = wr := ⟨_, rfl⟩
        subst hY
        refine wp_region_noPanic ?_
        refine wp_region_lim (LeadS p (.slice la c.log.length lc) c.term) (fun i => decide (i < 17)) (fun i => false) (by kernel_rfl) (by kernel_rfl) (leadS_bel HS0.out (Below.refl _ _).drew) (fun HT hS0 => ?_)
        refine tkD HT 0 34 (v := ?_) ?_ ?_
        rotate_left
        · (intro w5 hSw; obtain ⟨q1, q2⟩ := hSw; go_simp; (try with_reducible rfl))
        try simp only [s1, s2, s3]
        refine tkD HT 1 35 (v := ?_) ?_ ?_
        rotate_left
        · (intro w5 hSw; obtain ⟨q1, q2⟩ := hSw; go_simp; (try with_reducible rfl))
        try simp only [s1, s2, s3]
        refine tkD HT 2 36 (v := ?_) ?_ ?_
        rotate_left
        · (intro w5 hSw; obtain ⟨q1, q2⟩ := hSw; go_simp; (try with_reducible rfl))
        try simp only [s1, s2, s3]
        refine tkD HT 3 37 (v := ?_) ?_ ?_
        rotate_left
        · (intro w5 hSw; obtain ⟨q1, q2⟩ := hSw; go_simp; (try with_reducible rfl))
        try simp only [s1, s2, s3]
        refine tkD HT 4 38 (v := ?_) ?_ ?_
        rotate_left
        · (intro w5 hSw; obtain ⟨q1, q2⟩ := hSw; go_simp; (try with_reducible rfl))
        try simp only [s1, s2, s3]
        refine tkD HT 5 39 (v := ?_) ?_ ?_
        rotate_left
        · (intro w5 hSw; obtain ⟨q1, q2⟩ := hSw; go_simp; (try with_reducible rfl))
        try simp only [s1, s2, s3]
        refine tkD HT 6 40 (v := ?_) ?_ ?_
        rotate_left
        · (intro w5 hSw; obtain ⟨q1, q2⟩ := hSw; go_simp; (try with_reducible rfl))
        try simp only [s1, s2, s3]
        refine tkD HT 7 41 (v := ?_) ?_ ?_
        rotate_left
        · (intro w5 hSw; obtain ⟨q1, q2⟩ := hSw; go_simp; (try with_reducible rfl))
        try simp only [s1, s2, s3]
        refine tkD HT 8 42 (v := ?_) ?_ ?_
        rotate_left
        · (intro w5 hSw; obtain ⟨q1, q2⟩ := hSw; go_simp; (try with_reducible rfl))
        try simp only [s1, s2, s3]
        refine tkD HT 9 43 (v := ?_) ?_ ?_
        rotate_left
        · (intro w5 hSw; obtain ⟨q1, q2⟩ := hSw; go_simp; (try with_reducible rfl))
        try simp only [s1, s2, s3]
        refine tkD HT 10 44 (v := ?_) ?_ ?_
        rotate_left
        · (intro w5 hSw; obtain ⟨q1, q2⟩ := hSw; go_simp; (try with_reducible rfl))
        try simp only [s1, s2, s3]
        refine tkD HT 11 45 (v := ?_) ?_ ?_
        rotate_left
        · (intro w5 hSw; obtain ⟨q1, q2⟩ := hSw; go_simp; (try with_reducible rfl))
        try simp only [s1, s2, s3]
        refine tkS 12 (fun K5 hK => ?_)
        go_simp
        refine hK.out _ _ (leadS_bel (leadS_bel HS0.out (Below.refl _ _).drew) (bel1 _ (.cells #[.int .u64 c.term, .int .i64 1, .int .u64 0, .int .u64 0] 30))) (fun hS1 => ?_)
        clear hK K5
        try simp only [Act.put, s1, s2, s3]
        have l1 : Lst encE 4 (World.drew (World.alloc Y (.cells #[.int .u64 c.term, .int .i64 1, .int .u64 0, .int .u64 0] 30))) (some ⟨Y.heap.size, 0, none⟩) [(c.term, 1, 0, 0)] := litE Y.drew (c.term, 1, 0, 0)
        have gl1 : Below Y.heap.size Y (World.drew (World.alloc Y (.cells #[.int .u64 c.term, .int .i64 1, .int .u64 0, .int .u64 0] 30))) := grew_trans (Below.refl _ Y).drew (bel1 Y.drew (.cells #[.int .u64 c.term, .int .i64 1, .int .u64 0, .int .u64 0] 30))
        generalize (World.drew (World.alloc Y (.cells #[.int .u64 c.term, .int .i64 1, .int .u64 0, .int .u64 0] 30))) = V1 at *
        have l1' := Lib.hid l1
        have gl1' := Lib.hid gl1
        clear l1 gl1
        refine tkS 13 (fun K5 hK => ?_)
        refine step_app EE TE rfl (.tmp 39) (.tmp 46) rfl rfl (show OwnL encE 4 30 V1 base (.slice la c.log.length lc) c.log from (C.out.below gl1'.out).log) (some ⟨Y.heap.size, 0, none⟩) 1 1 [(c.term, 1, 0, 0)] rfl rfl l1'.out (by simp) (show (c.log.length + 1) * 32 ≤ 140737488355328 by omega) (show c.log.length + 1 ≤ maxLen by unfold maxLen; omega) (by have := (C.out.below gl1'.out).toCL.lt.1; omega) ?_
        intro v1 w1 ho hg hf
        have HO := Lib.hid (show OwnE w1 base v1 (c.log ++ [(c.term, 1, 0, 0)]) from ho)
        have HU := Lib.hid ((C.out.below gl1'.out).more HO.out hg hf)
        have HGM := Lib.hid (show Mod (fun k => (Value.slice la c.log.length lc).ownBlock = some k) V1 w1 from Mod.grown hg (fun _ e => e))
        have hnp := Lib.hid C.out.toCL.not
        refine hK.out _ _ ⟨HGM.out.cell (leadS_bel HS0.out gl1'.out).1 hnp.out, HGM.out.cell (leadS_bel HS0.out gl1'.out).2 hnp.out⟩ (fun hS2 => ?_)
        clear hK K5 ho hg hf
        try simp only [Act.put, s1, s2, s3]
        refine tkD HT 14 48 (v := ?_) ?_ ?_
        rotate_left
        · (intro w5 hSw; obtain ⟨q1, q2⟩ := hSw; go_simp; (try with_reducible rfl))
        try simp only [s1, s2, s3]
        refine tkD HT 15 49 (v := ?_) ?_ ?_
        rotate_left
        · (intro w5 hSw; obtain ⟨q1, q2⟩ := hSw; go_simp; (try with_reducible rfl))
        try simp only [s1, s2, s3]
        refine tkD HT 16 50 (v := ?_) ?_ ?_
        rotate_left
        · (intro w5 hSw; obtain ⟨q1, q2⟩ := hSw; go_simp; (try with_reducible rfl))
        try simp only [s1, s2, s3]
        have k1 := hS2.1
        have k1f : w1.frozen? ⟨p, 3, none⟩ = false := (cell_of (HGM.out.heap (C.out.below gl1'.out).blk hnp.out) 3 (v := .slice la c.log.length lc) rfl).2
        obtain ⟨sa1, sc1, hv1, -, -⟩ := own_sl HO.out
        subst hv1
        refine tkL 17 (fun K5 hK => ?_)
        go_simp
        refine hK.out _ _ ?_
        clear hK K5
        try simp only [Act.put, s1, s2, s3]
        refine wpAnyM_done (by kernel_rfl) (NoPanic.normal ?_)
        have hU := HU.out
        rw [show List.length (c.log ++ [((c.term, 1, 0, 0) : Ent)]) = c.log.length + 1 by simp] at hU
        obtain ⟨lv2, ov2, tv2, os2, hC2, hM2, hF2⟩ := hU
        have HC2 := Lib.hid hC2
        have HM2 := Lib.hid hM2
        have HF2 := Lib.hid hF2
        clear hC2 hM2 hF2
        have HNX : ∀ v, v < 3 → 1 ≤ ((leadC c 3).pr v).next ∧ ((leadC c 3).pr v).next ≤ ((List.length (c.log ++ [((c.term, 1, 0, 0) : Ent)]) : Nat) : Int) + 1 := fun v hv => by simp [leadC, hv, Co.newPr]; omega
        have HNX' := Lib.hid HNX
        have HLL := Lib.hid (show List.length (c.log ++ [((c.term, 1, 0, 0) : Ent)]) ≤ 300 by simp; omega)
        clear HNX
        go_wp2_with (go_at_call 36; refine (ent_others HC2.out HNX'.out HLL.out HL.out.2.1 HL.out.2.2).mono ?_; rintro e w3 ⟨rfl, hU3⟩)
        go_end0
        rw [HLD.out]
        exact ⟨rfl, CUpd.then ((M.out.mono (fun _ _ e => Or.inl e)).trans (Mod.bel gl1'.out)) (fun _ hk => .inl hk) (CUpd.then HM2.out HF2.out hU3)⟩
      · have h3i : (300 : Int) ≤ (c.log.length : Int) := by omega
        have HLD := Lib.hid (show c.lead = Co.others Co.entries (leadC c 3) by unfold Co.lead leadC; rw [if_neg h300])
        have HNX : ∀ v, v < 3 → 1 ≤ ((leadC c 3).pr v).next ∧ ((leadC c 3).pr v).next ≤ ((leadC c 3).log.length : Int) + 1 := fun v hv => by simp [leadC, hv, Co.newPr]; omega
        have HNX' := Lib.hid HNX
        clear HNX
        go_wp2_with (go_at_call 36; refine (ent_others C.out HNX'.out HL.out.1 HL.out.2.1 HL.out.2.2).mono ?_; rintro e w3 ⟨rfl, hU3⟩)
        go_end0
        rw [HLD.out]
        exact ⟨rfl, CUpd.then (M.out.mono (fun _ _ e => Or.inl e)) (fun _ hk => .inl hk) hU3⟩
end Go.Proofs.Ytcleaamjfjnkkaa
