/- The reference's line, and how long it is sure; what is alike. -/
import Derived.Test.YtcleaamjfjnkkaaGreatRz4
import Derived.Test.YtcleaamjfjnkkaaGreatCo37
import Derived.Deep.MidRow
import Derived.Laws.Tables
namespace Go.Proofs.YtcleaamjfjnkkaaGreat
open Go.RowKit Go.Joins

set_option maxRecDepth 100000 in
theorem resRL (tmps : Array Value) (w : World) (R : Nat) (x y z u : Value) (h2 : tmps.getD 2 undef = .pointer (some ⟨R, 0, none⟩)) (hR : w.heap[R]? = some (.cells #[x, y, z, u] 56 (0, 0))) :
    (results Tryz.f40 tmps).run Tryz.prog w = .ok (.agg #[x, y, z, u]) w :=
  results_cell_row (P := Tryz.prog) (p := 2) (ty := 56) rfl tmps w R 56 _ (0, 0) _ h2 hR Tryz.underlying56 rfl (by kernel_rfl)
set_option linter.unusedSimpArgs false in
set_option linter.unusedVariables false in
set_option maxHeartbeats 8000000 in
set_option maxRecDepth 100000 in
theorem rline_any {w : World} {base q : Nat} {lv ov tv : Value} {vt : Nat → Bool} {c : Co} (h : RL w base q lv ov tv vt c) (hlen : c.log.length ≤ 300) : Calls Tryz.prog 40 #[.pointer (some ⟨q, 0, none⟩)] w (LinePost (foldL (c.log.take (cut c.commit c.log.length))) w) := by
  have mixed : Tryz.prog.follows .mixedOrders = true := by kernel_rfl
  obtain ⟨la, lc, hv, hsl, -⟩ := own_sl h.log
  subst hv
  have HW := Lib.hid (bel1 w (.cells #[.int .u64 0, .int .i64 0, .bool false, .slice none 0 0] 56))
  have HBL := Lib.hid (heap_alloc_new w (.cells #[.int .u64 0, .int .i64 0, .bool false, .slice none 0 0] 56))
  have C1 := Lib.hid (h.below HW.out)
  have HF := Lib.hid (fun W (hb : Below (w.alloc (.cells #[.int .u64 0, .int .i64 0, .bool false, .slice none 0 0] 56)).heap.size (w.alloc (.cells #[.int .u64 0, .int .i64 0, .bool false, .slice none 0 0] 56)) W) => rfold_any la lc c.log c.commit W ((hsl.below HW.out).below hb) (by omega))
  have HC := Lib.hid (show Cel2 ⟨q, 3, none⟩ (.slice la c.log.length lc) ⟨q, 4, none⟩ (.int .i64 c.commit) (w.alloc (.cells #[.int .u64 0, .int .i64 0, .bool false, .slice none 0 0] 56)) from ⟨C1.out.cells.1.2.2.2.1, C1.out.cells.1.2.2.2.2.1⟩)
  have HNE := Lib.hid (show w.heap.size < (w.alloc (.cells #[.int .u64 0, .int .i64 0, .bool false, .slice none 0 0] 56)).heap.size by simp)
  have HSZ := Lib.hid (show w.heap.size ≤ (w.alloc (.cells #[.int .u64 0, .int .i64 0, .bool false, .slice none 0 0] 56)).heap.size by simp)
  clear h hsl hlen
  generalize foldL (c.log.take (cut c.commit c.log.length)) = S at *
  go_enter Tryz.func40, Tryz.ntmps40
  go_upto_region 1 with fail
  generalize w.alloc (.cells #[.int .u64 0, .int .i64 0, .bool false, .slice none 0 0] 56) = Y at *
  refine wp_region_noPanic ?_
  refine wp_region_lim (Cel2 ⟨q, 3, none⟩ (.slice la c.log.length lc) ⟨q, 4, none⟩ (.int .i64 c.commit)) (fun i => decide (i < 10)) (fun i => false) (by kernel_rfl) (by kernel_rfl) ⟨keepc' HC.out.1 (Below.refl _ _).drew, keepc' HC.out.2 (Below.refl _ _).drew⟩ (fun HT hS0 => ?_)
  refine tkD HT 0 3 (v := ?_) ?_ ?_
  rotate_left
  · (intro w5 hSw; obtain ⟨q1, q2⟩ := hSw; go_simp; (try with_reducible rfl))
  try simp only [s1, s2, s3]
  refine tkD HT 1 4 (v := ?_) ?_ ?_
  rotate_left
  · (intro w5 hSw; obtain ⟨q1, q2⟩ := hSw; go_simp; (try with_reducible rfl))
  try simp only [s1, s2, s3]
  refine tkD HT 2 5 (v := ?_) ?_ ?_
  rotate_left
  · (intro w5 hSw; obtain ⟨q1, q2⟩ := hSw; go_simp; (try with_reducible rfl))
  try simp only [s1, s2, s3]
  refine tkD HT 3 6 (v := ?_) ?_ ?_
  rotate_left
  · (intro w5 hSw; obtain ⟨q1, q2⟩ := hSw; go_simp; (try with_reducible rfl))
  try simp only [s1, s2, s3]
  refine tkD HT 4 7 (v := ?_) ?_ ?_
  rotate_left
  · (intro w5 hSw; obtain ⟨q1, q2⟩ := hSw; go_simp; (try with_reducible rfl))
  try simp only [s1, s2, s3]
  refine tkD HT 5 8 (v := ?_) ?_ ?_
  rotate_left
  · (intro w5 hSw; obtain ⟨q1, q2⟩ := hSw; go_simp; (try with_reducible rfl))
  try simp only [s1, s2, s3]
  refine tkD HT 6 9 (v := ?_) ?_ ?_
  rotate_left
  · (intro w5 hSw; obtain ⟨q1, q2⟩ := hSw; go_simp; (try with_reducible rfl))
  try simp only [s1, s2, s3]
  refine tkD HT 7 10 (v := ?_) ?_ ?_
  rotate_left
  · (intro w5 hSw; obtain ⟨q1, q2⟩ := hSw; go_simp; (try with_reducible rfl))
  try simp only [s1, s2, s3]
  refine tkD HT 8 11 (v := ?_) ?_ ?_
  rotate_left
  · (intro w5 hSw; obtain ⟨q1, q2⟩ := hSw; go_simp; (try with_reducible rfl))
  try simp only [s1, s2, s3]
  refine tkS 9 (fun K5 hK => ?_)
  go_simp
  go_at_call 57
  refine (HF.out _ (Below.refl _ _).drew).mono ?_
  rintro e w6 ⟨lv6, rfl, hg6, hb6⟩
  have HG6 := Lib.hid hg6
  have HB6 := Lib.hid (grew_trans (Below.refl _ Y).drew hb6)
  clear hg6 hb6
  dsimp only
  refine hK.out _ _ ⟨keepc' HC.out.1 HB6.out, keepc' HC.out.2 HB6.out⟩ (fun hS1 => ?_)
  clear hK K5
  try simp only [Act.put, s1, s2, s3]
  have HR6 := Lib.hid (blk_below HBL.out HB6.out)
  obtain ⟨ga, gcap, hlv, -⟩ := own_gids HG6.out
  subst hlv
  obtain ⟨⟨r0, s0⟩, ⟨r1, s1⟩, ⟨r2, s2⟩, ⟨r3, s3⟩⟩ := (And.intro (cell_of HR6.out 0 (v := .int .u64 0) rfl) (And.intro (cell_of HR6.out 1 (v := .int .i64 0) rfl) (And.intro (cell_of HR6.out 2 (v := .bool false) rfl) (cell_of HR6.out 3 (v := .slice none 0 0) rfl))))
  refine tkL 10 (fun K5 hK => ?_)
  go_simp
  refine hK.out _ _ ?_
  clear hK K5
  try simp only [Act.put, s1, s2, s3]
  refine wpAnyM_done (by kernel_rfl) (NoPanic.normal ?_)
  go_wp2
  have hR : ((((w6.setCell ⟨w.heap.size, 0, none⟩ (.int .u64 S.1)).setCell ⟨w.heap.size, 1, none⟩ (.int .i64 S.2.1)).setCell ⟨w.heap.size, 2, none⟩ (.bool S.2.2.1)).setCell ⟨w.heap.size, 3, none⟩ (.slice ga S.2.2.2.length gcap)).heap[w.heap.size]? = some (.cells #[.int .u64 S.1, .int .i64 S.2.1, .bool S.2.2.1, .slice ga S.2.2.2.length gcap] 56 (0, 0)) := by
    rw [setCell_blk (setCell_blk (setCell_blk (setCell_blk HR6.out)))]; rfl
  have hm : Mod (fun k => k = w.heap.size) w6 ((((w6.setCell ⟨w.heap.size, 0, none⟩ (.int .u64 S.1)).setCell ⟨w.heap.size, 1, none⟩ (.int .i64 S.2.1)).setCell ⟨w.heap.size, 2, none⟩ (.bool S.2.2.1)).setCell ⟨w.heap.size, 3, none⟩ (.slice ga S.2.2.2.length gcap)) :=
    (((Mod.cellOf w.heap.size 0 _).trans (Mod.cellOf w.heap.size 1 _)).trans (Mod.cellOf w.heap.size 2 _)).trans (Mod.cellOf w.heap.size 3 _)
  refine bodyPost_ret (resRL _ _ _ _ _ _ _ rfl hR) rfl ?_
  refine ⟨_, rfl, ?_, ?_⟩
  · have h1 := hm.own HG6.out (fun g hg e => by have := (World.ownsRow.lt HG6.out g hg).1; have h9 : Y.drew.heap.size = Y.heap.size := rfl; have := HNE.out; omega)
    exact OwnG.mono h1 HSZ.out
  · exact (HW.out.trans (HB6.out.mono HSZ.out)).trans (hm.below (by have := HB6.out.size; have := HSZ.out; omega) (fun k e => by omega))
set_option maxRecDepth 100000 in
theorem rcuntil_any {w : World} {base q : Nat} {lv ov tv : Value} {vt : Nat → Bool} {c : Co} (h : RL w base q lv ov tv vt c) (hr : c.role ≠ 2) : Calls Tryz.prog 42 #[.pointer (some ⟨q, 0, none⟩)] w (SameI c.until_ w) := by
  have HU := Lib.hid (show c.until_ = 0 by unfold Co.until_; rw [if_neg hr])
  have g5 := h.cells.1.2.2.2.2.2.1
  have hb : (c.role == 2) = false := by simpa using hr
  have hb2 : (c.role != 2) = true := by simpa using hr
  clear h hr
  go_enter Tryz.func42, Tryz.ntmps42
  go_wp2
  go_ret
  exact sameI HU.out.symm
set_option maxRecDepth 100000 in
theorem hard_eq {w : World} (t v : Int) (a b : Option Addr) (n ca cb : Nat) (es : List Ent) (hn : es.length = n) (ha : Ents w a es) (hb : Ents w b es) (hlen : n ≤ 1000) :
    Calls Tryz.prog 33 #[.agg #[.int .u64 t, .int .i64 v, .slice a n ca], .agg #[.int .u64 t, .int .i64 v, .slice b n cb]] w (RetB true w) := by
  subst hn
  have HB : Hid (∀ (o1 o2 : Obj), Below w.heap.size w ((w.alloc o1).alloc o2)) := fun o1 o2 => ((Below.refl _ w).alloc (Nat.le_refl _) o1).alloc (by simp) o2
  have HS : Hid (∀ o1 o2, Calls Tryz.prog 18 #[.slice a es.length ca, .slice b es.length cb] ((w.alloc o1).alloc o2) (RetB true ((w.alloc o1).alloc o2))) := fun o1 o2 => by
    refine (rsame_any es es a b ca cb _ (ents_below ha (HB.out _ _)) (ents_below hb (HB.out _ _)) (by unfold maxLen; omega)).mono ?_
    rintro e w3 ⟨rfl, q, rfl⟩
    exact ⟨by simp, below_drewN' _ q⟩
  clear ha hb hlen
  have ht : (t == t) = true := by simp
  have hv : (v == v) = true := by simp
  go_enter Tryz.func33, Tryz.ntmps33
  go_wp2_with (go_at_call 18; refine (HS.out _ _).mono ?_; rintro e w3 ⟨rfl, hb3⟩)
  go_ret
  exact retB rfl (grew_trans (HB.out _ _) hb3)
set_option linter.unusedSimpArgs false in
set_option linter.unusedVariables false in
set_option maxHeartbeats 8000000 in
set_option maxRecDepth 100000 in
theorem msgs_eq {w : World} (os1 os2 : List RM) (a1 a2 : Option Addr) (n c1 c2 : Nat) (hn : os1.length = n) (hm : os1.map RM.m = os2.map RM.m) (h1 : Lst encM 26 w a1 os1) (h2 : Lst encM 26 w a2 os2) (e1 : ∀ x ∈ os1, Ents w x.ea x.m.ents ∧ x.m.ents.length ≤ 1000) (e2 : ∀ x ∈ os2, Ents w x.ea x.m.ents) (hle : n ≤ 1000) :
    Calls Tryz.prog 6 #[.slice a1 n c1, .slice a2 n c2] w (RetB true w) := by
  have mixed : Tryz.prog.follows .mixedOrders = true := by kernel_rfl
  have hb : ((n : Int) == (n : Int)) = true := by simp
  have hb2 : ((n : Int) != (n : Int)) = false := by simp
  have hni : (n : Int) ≤ 1000 := by omega
  have H1 := Lib.hid h1
  have H2 := Lib.hid h2
  have E1 := Lib.hid e1
  have E2 := Lib.hid e2
  have HM := Lib.hid hm
  have HN := Lib.hid (And.intro hn hle)
  clear h1 h2 e1 e2 hm hn hle
  go_enter Tryz.func6, Tryz.ntmps6
  go_wp2
  go_loopg [5] n (fun gk u wr => ∃ i : Nat, i + gk = n ∧ u = .int .i64 (i : Int) ∧ Below w.heap.size w wr)
  case atStart => exact ⟨0, by omega, rfl, Below.refl _ _⟩
  case round =>
    obtain ⟨i, hik, rfl, hbw⟩ := hrel
    have HB := Lib.hid hbw
    clear hbw
    by_cases hlt : i < n
    · have hli : (i : Int) < (n : Int) := by omega
      have hl1 : i < os1.length := by have := HN.out.1; omega
      have hl2 : i < os2.length := by have := congrArg List.length HM.out; simp at this; omega
      obtain ⟨b1, off1, ha1, hc1⟩ := H1.out i hl1
      obtain ⟨b2, off2, ha2, hc2⟩ := H2.out i hl2
      subst ha1 ha2
      have hmm : (os2.getD i default).m = (os1.getD i default).m := by
        have := congrArg (fun l => l[i]?) HM.out
        simp [List.getElem?_map, hl1, hl2] at this
        simp [List.getD_eq_getElem?_getD, hl1, hl2, this]
      have k1 := E1.out (os1.getD i default) (by simp [List.getD_eq_getElem?_getD, hl1])
      have k2 := E2.out (os2.getD i default) (by simp [List.getD_eq_getElem?_getD, hl2])
      generalize os1.getD i default = x1 at *
      generalize os2.getD i default = x2 at *
      have X1H := Lib.hid (hc1.below HB.out)
      have X2H := Lib.hid (hc2.below HB.out)
      have HE := Lib.hid (And.intro (ents_below k1.1 HB.out) (And.intro (ents_below k2 HB.out) (And.intro k1.2 hmm)))
      clear hc1 hc2 hl1 hl2 hmm k1 k2
      go_upto_region 6 with fail
      refine wp_region_noPanic ?_
      refine wp_region_lim (BelS wr) (fun i => decide (i < 11)) (fun i => false) (by kernel_rfl) (by kernel_rfl) (Below.refl _ wr).drew (fun HT hS0 => ?_)
      refine tkD HT 0 19 (v := ?_) ?_ ?_
      rotate_left
      · (intro w5 hSw; go_simp; (try with_reducible rfl))
      try simp only [s1, s2, s3]
      refine tkD HT 1 20 (v := ?_) ?_ ?_
      rotate_left
      · (intro w5 hSw; go_simp; (try with_reducible rfl))
      try simp only [s1, s2, s3]
      refine tkD HT 2 21 (v := ?_) ?_ ?_
      rotate_left
      · (intro w5 hSw; go_simp; (try with_reducible rfl))
      try simp only [s1, s2, s3]
      refine wpAnyM_takeD HT 3 22 (v := .agg (encM x1).toArray) rfl rfl (by kernel_rfl) (fun _ _ _ h => h) (yieldsIf_load_mid (S := BelS wr) (by kernel_rfl) 63 (.tmp 21) rfl b1 (off1 + i * 26) ?_ (encM x1) _ (fun w5 hSw => CellsAt.below X1H.out (show Below wr.heap.size wr w5 from hSw)) Tryz.underlying63 rfl (by kernel_rfl)) (by assumption) ?_
      · rfl
      try simp only [s1, s2, s3]
      refine tkD HT 4 23 (v := ?_) ?_ ?_
      rotate_left
      · (intro w5 hSw; go_simp; (try with_reducible rfl))
      try simp only [s1, s2, s3]
      refine tkD HT 5 24 (v := ?_) ?_ ?_
      rotate_left
      · (intro w5 hSw; go_simp; (try with_reducible rfl))
      try simp only [s1, s2, s3]
      refine tkD HT 6 25 (v := ?_) ?_ ?_
      rotate_left
      · (intro w5 hSw; go_simp; (try with_reducible rfl))
      try simp only [s1, s2, s3]
      refine wpAnyM_takeD HT 7 26 (v := .agg (encM x2).toArray) rfl rfl (by kernel_rfl) (fun _ _ _ h => h) (yieldsIf_load_mid (S := BelS wr) (by kernel_rfl) 63 (.tmp 25) rfl b2 (off2 + i * 26) ?_ (encM x2) _ (fun w5 hSw => CellsAt.below X2H.out (show Below wr.heap.size wr w5 from hSw)) Tryz.underlying63 rfl (by kernel_rfl)) (by assumption) ?_
      · rfl
      try simp only [s1, s2, s3]
      refine wpAnyM_two 8 9 (by kernel_rfl) rfl rfl (fun K5 hK => ?_) (fun K5 hK => ?_)
      · go_simp
        refine hK.out _ _ ((bel1 wr (.cells #[.int .i64 0, .int .u64 0, .int .i64 0, .int .u64 0, .slice none 0 0, .int .i64 0, .bool false, .int .i64 0, .int .i64 0, .int .u64 0, .int .i64 0, .bool false, .slice none 0 0, .int .i64 0, .int .u64 0, .int .u64 0, .int .u64 0, .int .u64 0, .int .i64 0, .int .u64 0, .int .u64 0, .int .u64 0, .int .u64 0, .int .i64 0, .int .i64 0, .slice none 0 0] 63)).drew) (fun hS1 => ?_)
        clear hK K5
        try simp only [Act.put, s1, s2, s3]
        refine tkS 9 (fun K5 hK => ?_)
        go_simp
        refine hK.out _ _ (((bel1 wr (.cells #[.int .i64 0, .int .u64 0, .int .i64 0, .int .u64 0, .slice none 0 0, .int .i64 0, .bool false, .int .i64 0, .int .i64 0, .int .u64 0, .int .i64 0, .bool false, .slice none 0 0, .int .i64 0, .int .u64 0, .int .u64 0, .int .u64 0, .int .u64 0, .int .i64 0, .int .u64 0, .int .u64 0, .int .u64 0, .int .u64 0, .int .i64 0, .int .i64 0, .slice none 0 0] 63)).trans ((bel1 _ (.cells #[.int .i64 0, .int .u64 0, .int .i64 0, .int .u64 0, .slice none 0 0, .int .i64 0, .bool false, .int .i64 0, .int .i64 0, .int .u64 0, .int .i64 0, .bool false, .slice none 0 0, .int .i64 0, .int .u64 0, .int .u64 0, .int .u64 0, .int .u64 0, .int .i64 0, .int .u64 0, .int .u64 0, .int .u64 0, .int .u64 0, .int .i64 0, .int .i64 0, .slice none 0 0] 63)).mono (by simp))).drew) (fun hS2 => ?_)
        clear hK K5
        try simp only [Act.put, s1, s2, s3]
        have h6 : (World.drew ((wr.alloc (.cells #[.int .i64 0, .int .u64 0, .int .i64 0, .int .u64 0, .slice none 0 0, .int .i64 0, .bool false, .int .i64 0, .int .i64 0, .int .u64 0, .int .i64 0, .bool false, .slice none 0 0, .int .i64 0, .int .u64 0, .int .u64 0, .int .u64 0, .int .u64 0, .int .i64 0, .int .u64 0, .int .u64 0, .int .u64 0, .int .u64 0, .int .i64 0, .int .i64 0, .slice none 0 0] 63)).alloc (.cells #[.int .i64 0, .int .u64 0, .int .i64 0, .int .u64 0, .slice none 0 0, .int .i64 0, .bool false, .int .i64 0, .int .i64 0, .int .u64 0, .int .i64 0, .bool false, .slice none 0 0, .int .i64 0, .int .u64 0, .int .u64 0, .int .u64 0, .int .u64 0, .int .i64 0, .int .u64 0, .int .u64 0, .int .u64 0, .int .u64 0, .int .i64 0, .int .i64 0, .slice none 0 0] 63))).heap[wr.heap.size]? = some (.cells #[.int .i64 0, .int .u64 0, .int .i64 0, .int .u64 0, .slice none 0 0, .int .i64 0, .bool false, .int .i64 0, .int .i64 0, .int .u64 0, .int .i64 0, .bool false, .slice none 0 0, .int .i64 0, .int .u64 0, .int .u64 0, .int .u64 0, .int .u64 0, .int .i64 0, .int .u64 0, .int .u64 0, .int .u64 0, .int .u64 0, .int .i64 0, .int .i64 0, .slice none 0 0] 63 (0, 0)) := (blk_below (heap_alloc_new wr _) (bel1 _ _).drew)
        have h7 : (World.drew ((wr.alloc (.cells #[.int .i64 0, .int .u64 0, .int .i64 0, .int .u64 0, .slice none 0 0, .int .i64 0, .bool false, .int .i64 0, .int .i64 0, .int .u64 0, .int .i64 0, .bool false, .slice none 0 0, .int .i64 0, .int .u64 0, .int .u64 0, .int .u64 0, .int .u64 0, .int .i64 0, .int .u64 0, .int .u64 0, .int .u64 0, .int .u64 0, .int .i64 0, .int .i64 0, .slice none 0 0] 63)).alloc (.cells #[.int .i64 0, .int .u64 0, .int .i64 0, .int .u64 0, .slice none 0 0, .int .i64 0, .bool false, .int .i64 0, .int .i64 0, .int .u64 0, .int .i64 0, .bool false, .slice none 0 0, .int .i64 0, .int .u64 0, .int .u64 0, .int .u64 0, .int .u64 0, .int .i64 0, .int .u64 0, .int .u64 0, .int .u64 0, .int .u64 0, .int .i64 0, .int .i64 0, .slice none 0 0] 63))).heap[wr.heap.size + 1]? = some (.cells #[.int .i64 0, .int .u64 0, .int .i64 0, .int .u64 0, .slice none 0 0, .int .i64 0, .bool false, .int .i64 0, .int .i64 0, .int .u64 0, .int .i64 0, .bool false, .slice none 0 0, .int .i64 0, .int .u64 0, .int .u64 0, .int .u64 0, .int .u64 0, .int .i64 0, .int .u64 0, .int .u64 0, .int .u64 0, .int .u64 0, .int .i64 0, .int .i64 0, .slice none 0 0] 63 (0, 0)) := (by have := heap_alloc_new (wr.alloc (.cells #[.int .i64 0, .int .u64 0, .int .i64 0, .int .u64 0, .slice none 0 0, .int .i64 0, .bool false, .int .i64 0, .int .i64 0, .int .u64 0, .int .i64 0, .bool false, .slice none 0 0, .int .i64 0, .int .u64 0, .int .u64 0, .int .u64 0, .int .u64 0, .int .i64 0, .int .u64 0, .int .u64 0, .int .u64 0, .int .u64 0, .int .i64 0, .int .i64 0, .slice none 0 0] 63)) (.cells #[.int .i64 0, .int .u64 0, .int .i64 0, .int .u64 0, .slice none 0 0, .int .i64 0, .bool false, .int .i64 0, .int .i64 0, .int .u64 0, .int .i64 0, .bool false, .slice none 0 0, .int .i64 0, .int .u64 0, .int .u64 0, .int .u64 0, .int .u64 0, .int .i64 0, .int .u64 0, .int .u64 0, .int .u64 0, .int .u64 0, .int .i64 0, .int .i64 0, .slice none 0 0] 63); rw [World.size_alloc] at this; exact this)
        have hbw : Below wr.heap.size wr (World.drew ((wr.alloc (.cells #[.int .i64 0, .int .u64 0, .int .i64 0, .int .u64 0, .slice none 0 0, .int .i64 0, .bool false, .int .i64 0, .int .i64 0, .int .u64 0, .int .i64 0, .bool false, .slice none 0 0, .int .i64 0, .int .u64 0, .int .u64 0, .int .u64 0, .int .u64 0, .int .i64 0, .int .u64 0, .int .u64 0, .int .u64 0, .int .u64 0, .int .i64 0, .int .i64 0, .slice none 0 0] 63)).alloc (.cells #[.int .i64 0, .int .u64 0, .int .i64 0, .int .u64 0, .slice none 0 0, .int .i64 0, .bool false, .int .i64 0, .int .i64 0, .int .u64 0, .int .i64 0, .bool false, .slice none 0 0, .int .i64 0, .int .u64 0, .int .u64 0, .int .u64 0, .int .u64 0, .int .i64 0, .int .u64 0, .int .u64 0, .int .u64 0, .int .u64 0, .int .i64 0, .int .i64 0, .slice none 0 0] 63))) := ((bel1 wr _).trans ((bel1 _ _).mono (by simp))).drew
        have hne : wr.heap.size ≠ wr.heap.size + 1 := by omega
        have hge : wr.heap.size ≤ wr.heap.size ∧ wr.heap.size ≤ wr.heap.size + 1 := by omega
        generalize (World.drew ((wr.alloc (.cells #[.int .i64 0, .int .u64 0, .int .i64 0, .int .u64 0, .slice none 0 0, .int .i64 0, .bool false, .int .i64 0, .int .i64 0, .int .u64 0, .int .i64 0, .bool false, .slice none 0 0, .int .i64 0, .int .u64 0, .int .u64 0, .int .u64 0, .int .u64 0, .int .i64 0, .int .u64 0, .int .u64 0, .int .u64 0, .int .u64 0, .int .i64 0, .int .i64 0, .slice none 0 0] 63)).alloc (.cells #[.int .i64 0, .int .u64 0, .int .i64 0, .int .u64 0, .slice none 0 0, .int .i64 0, .bool false, .int .i64 0, .int .i64 0, .int .u64 0, .int .i64 0, .bool false, .slice none 0 0, .int .i64 0, .int .u64 0, .int .u64 0, .int .u64 0, .int .u64 0, .int .i64 0, .int .u64 0, .int .u64 0, .int .u64 0, .int .u64 0, .int .i64 0, .int .i64 0, .slice none 0 0] 63))) = Z at *
        have hs1 : Mod (fun k => k = wr.heap.size) Z (Z.setRow (wr.heap.size) (encM x1).toArray) := ⟨rfl, rfl, rfl, by simp [World.setRow], fun k _ hk => setRow_other _ _ _ _ hk⟩
        refine tkS 10 (fun K5 hK => ?_)
        rw [if_pos (by kernel_rfl)]
        refine wp_store_row 63 (.tmp 6) (.tmp 22) rfl (wr.heap.size) (encM x1).toArray rfl rfl 63 _ h6 (by kernel_rfl) rfl (all_oneCell_toArray (EM.2 x1)) ?_
        refine hK.out _ _ (hbw.trans (hs1.below hbw.size (fun k e => by omega))) (fun hS3 => ?_)
        clear hK K5
        try simp only [Act.put, s1, s2, s3]
        have k6 : (Z.setRow (wr.heap.size) (encM x1).toArray).heap[wr.heap.size]? = some (.cells (encM x1).toArray 63 (0, 0)) := setRow_heap Z _ _ _ _ _ h6
        have k7 : (Z.setRow (wr.heap.size) (encM x1).toArray).heap[wr.heap.size + 1]? = some (.cells #[.int .i64 0, .int .u64 0, .int .i64 0, .int .u64 0, .slice none 0 0, .int .i64 0, .bool false, .int .i64 0, .int .i64 0, .int .u64 0, .int .i64 0, .bool false, .slice none 0 0, .int .i64 0, .int .u64 0, .int .u64 0, .int .u64 0, .int .u64 0, .int .i64 0, .int .u64 0, .int .u64 0, .int .u64 0, .int .u64 0, .int .i64 0, .int .i64 0, .slice none 0 0] 63 (0, 0)) := (setRow_other Z _ _ _ (Ne.symm hne)).trans h7
        generalize Z.setRow (wr.heap.size) (encM x1).toArray = Z1 at *
        refine tkL 11 (fun K5 hK => ?_)
        rw [if_pos (by kernel_rfl)]
        refine wp_store_row 63 (.tmp 7) (.tmp 26) rfl (wr.heap.size + 1) (encM x2).toArray rfl rfl 63 _ k7 (by kernel_rfl) rfl (all_oneCell_toArray (EM.2 x2)) ?_
        refine hK.out _ _ ?_
        clear hK K5
        try simp only [Act.put, s1, s2, s3]
        have m6 : (Z1.setRow (wr.heap.size + 1) (encM x2).toArray).heap[wr.heap.size]? = some (.cells (encM x1).toArray 63 (0, 0)) := (setRow_other Z1 _ _ _ hne).trans k6
        have m7 : (Z1.setRow (wr.heap.size + 1) (encM x2).toArray).heap[wr.heap.size + 1]? = some (.cells (encM x2).toArray 63 (0, 0)) := setRow_heap Z1 _ _ _ _ _ k7
        have hs2 : Mod (fun k => k = wr.heap.size + 1) Z1 (Z1.setRow (wr.heap.size + 1) (encM x2).toArray) := ⟨rfl, rfl, rfl, by simp [World.setRow], fun k _ hk => setRow_other _ _ _ _ hk⟩
        have hbz : Below wr.heap.size wr (Z1.setRow (wr.heap.size + 1) (encM x2).toArray) := hbw.trans ((hs1.below hbw.size (fun k e => by omega)).trans (hs2.below (Nat.le_trans hbw.size hs1.size) (fun k e => by omega)))
        generalize Z1.setRow (wr.heap.size + 1) (encM x2).toArray = Z2 at *
        generalize hA7 : wr.heap.size + 1 = A7 at m7 ⊢
        generalize hA6 : wr.heap.size = A6 at m6 ⊢
        have HBZ := Lib.hid hbz
        have HX := Lib.hid (And.intro hA6 hA7)
        clear hbz hs1 hs2 hbw h6 h7 k6 k7 hne hge hS0 hS1 hS2 hS3 HT hA6 hA7
        refine wpAnyM_done (by kernel_rfl) (NoPanic.normal ?_)
        have p0 := (cell_of m6 0 (v := .int .i64 x1.m.kind) rfl).1
        have q0 := (cell_of m7 0 (v := .int .i64 x1.m.kind) (by rw [← HE.out.2.2.2]; rfl)).1
        have p1 := (cell_of m6 1 (v := .int .u64 x1.m.term) rfl).1
        have q1 := (cell_of m7 1 (v := .int .u64 x1.m.term) (by rw [← HE.out.2.2.2]; rfl)).1
        have p2 := (cell_of m6 2 (v := .int .i64 x1.m.prev) rfl).1
        have q2 := (cell_of m7 2 (v := .int .i64 x1.m.prev) (by rw [← HE.out.2.2.2]; rfl)).1
        have p3 := (cell_of m6 3 (v := .int .u64 x1.m.pterm) rfl).1
        have q3 := (cell_of m7 3 (v := .int .u64 x1.m.pterm) (by rw [← HE.out.2.2.2]; rfl)).1
        have p4 := (cell_of m6 4 (v := .slice x1.ea x1.m.ents.length x1.ec) rfl).1
        have q4 := (cell_of m7 4 (v := .slice x2.ea x1.m.ents.length x2.ec) (by rw [← HE.out.2.2.2]; rfl)).1
        have p5 := (cell_of m6 5 (v := .int .i64 x1.m.commit) rfl).1
        have q5 := (cell_of m7 5 (v := .int .i64 x1.m.commit) (by rw [← HE.out.2.2.2]; rfl)).1
        have p6 := (cell_of m6 6 (v := .bool x1.m.yes) rfl).1
        have q6 := (cell_of m7 6 (v := .bool x1.m.yes) (by rw [← HE.out.2.2.2]; rfl)).1
        have p7 := (cell_of m6 7 (v := .int .i64 x1.m.mat) rfl).1
        have q7 := (cell_of m7 7 (v := .int .i64 x1.m.mat) (by rw [← HE.out.2.2.2]; rfl)).1
        have p8 := (cell_of m6 8 (v := .int .i64 x1.m.stamp) rfl).1
        have q8 := (cell_of m7 8 (v := .int .i64 x1.m.stamp) (by rw [← HE.out.2.2.2]; rfl)).1
        have n_kind : (x1.m.kind != x1.m.kind) = false := by simp
        have n_term : (x1.m.term != x1.m.term) = false := by simp
        have n_prev : (x1.m.prev != x1.m.prev) = false := by simp
        have n_pterm : (x1.m.pterm != x1.m.pterm) = false := by simp
        have n_commit : (x1.m.commit != x1.m.commit) = false := by simp
        have n_mat : (x1.m.mat != x1.m.mat) = false := by simp
        have n_stamp : (x1.m.stamp != x1.m.stamp) = false := by simp
        have n_yes : (x1.m.yes != x1.m.yes) = false := by simp
        have h9 := rsame_any x1.m.ents x2.m.ents x1.ea x2.ea x1.ec x2.ec Z2 (ents_below HE.out.1 HBZ.out) (ents_below HE.out.2.1 HBZ.out) (by have := HE.out.2.2.1; unfold maxLen; omega)
        rw [HE.out.2.2.2, show decide (x1.m.ents = x1.m.ents) = true by simp] at h9
        have HSM := Lib.hid h9
        clear h9
        clear m6 m7
        go_wp2_with (go_at_call 18; refine HSM.out.mono ?_; rintro e w3 ⟨rfl, nq, rfl⟩)
        go_roundg (gk - 1)
        case measure => omega
        case rel => exact ⟨i + 1, by omega, by simp, HB.out.trans ((HBZ.out.trans ((below_drewN' Z2 nq).mono HBZ.out.size)).mono HB.out.size)⟩
      · go_simp
        refine hK.out _ _ ((bel1 wr (.cells #[.int .i64 0, .int .u64 0, .int .i64 0, .int .u64 0, .slice none 0 0, .int .i64 0, .bool false, .int .i64 0, .int .i64 0, .int .u64 0, .int .i64 0, .bool false, .slice none 0 0, .int .i64 0, .int .u64 0, .int .u64 0, .int .u64 0, .int .u64 0, .int .i64 0, .int .u64 0, .int .u64 0, .int .u64 0, .int .u64 0, .int .i64 0, .int .i64 0, .slice none 0 0] 63)).drew) (fun hS1 => ?_)
        clear hK K5
        try simp only [Act.put, s1, s2, s3]
        refine tkS 8 (fun K5 hK => ?_)
        go_simp
        refine hK.out _ _ (((bel1 wr (.cells #[.int .i64 0, .int .u64 0, .int .i64 0, .int .u64 0, .slice none 0 0, .int .i64 0, .bool false, .int .i64 0, .int .i64 0, .int .u64 0, .int .i64 0, .bool false, .slice none 0 0, .int .i64 0, .int .u64 0, .int .u64 0, .int .u64 0, .int .u64 0, .int .i64 0, .int .u64 0, .int .u64 0, .int .u64 0, .int .u64 0, .int .i64 0, .int .i64 0, .slice none 0 0] 63)).trans ((bel1 _ (.cells #[.int .i64 0, .int .u64 0, .int .i64 0, .int .u64 0, .slice none 0 0, .int .i64 0, .bool false, .int .i64 0, .int .i64 0, .int .u64 0, .int .i64 0, .bool false, .slice none 0 0, .int .i64 0, .int .u64 0, .int .u64 0, .int .u64 0, .int .u64 0, .int .i64 0, .int .u64 0, .int .u64 0, .int .u64 0, .int .u64 0, .int .i64 0, .int .i64 0, .slice none 0 0] 63)).mono (by simp))).drew) (fun hS2 => ?_)
        clear hK K5
        try simp only [Act.put, s1, s2, s3]
        have h6 : (World.drew ((wr.alloc (.cells #[.int .i64 0, .int .u64 0, .int .i64 0, .int .u64 0, .slice none 0 0, .int .i64 0, .bool false, .int .i64 0, .int .i64 0, .int .u64 0, .int .i64 0, .bool false, .slice none 0 0, .int .i64 0, .int .u64 0, .int .u64 0, .int .u64 0, .int .u64 0, .int .i64 0, .int .u64 0, .int .u64 0, .int .u64 0, .int .u64 0, .int .i64 0, .int .i64 0, .slice none 0 0] 63)).alloc (.cells #[.int .i64 0, .int .u64 0, .int .i64 0, .int .u64 0, .slice none 0 0, .int .i64 0, .bool false, .int .i64 0, .int .i64 0, .int .u64 0, .int .i64 0, .bool false, .slice none 0 0, .int .i64 0, .int .u64 0, .int .u64 0, .int .u64 0, .int .u64 0, .int .i64 0, .int .u64 0, .int .u64 0, .int .u64 0, .int .u64 0, .int .i64 0, .int .i64 0, .slice none 0 0] 63))).heap[wr.heap.size + 1]? = some (.cells #[.int .i64 0, .int .u64 0, .int .i64 0, .int .u64 0, .slice none 0 0, .int .i64 0, .bool false, .int .i64 0, .int .i64 0, .int .u64 0, .int .i64 0, .bool false, .slice none 0 0, .int .i64 0, .int .u64 0, .int .u64 0, .int .u64 0, .int .u64 0, .int .i64 0, .int .u64 0, .int .u64 0, .int .u64 0, .int .u64 0, .int .i64 0, .int .i64 0, .slice none 0 0] 63 (0, 0)) := (by have := heap_alloc_new (wr.alloc (.cells #[.int .i64 0, .int .u64 0, .int .i64 0, .int .u64 0, .slice none 0 0, .int .i64 0, .bool false, .int .i64 0, .int .i64 0, .int .u64 0, .int .i64 0, .bool false, .slice none 0 0, .int .i64 0, .int .u64 0, .int .u64 0, .int .u64 0, .int .u64 0, .int .i64 0, .int .u64 0, .int .u64 0, .int .u64 0, .int .u64 0, .int .i64 0, .int .i64 0, .slice none 0 0] 63)) (.cells #[.int .i64 0, .int .u64 0, .int .i64 0, .int .u64 0, .slice none 0 0, .int .i64 0, .bool false, .int .i64 0, .int .i64 0, .int .u64 0, .int .i64 0, .bool false, .slice none 0 0, .int .i64 0, .int .u64 0, .int .u64 0, .int .u64 0, .int .u64 0, .int .i64 0, .int .u64 0, .int .u64 0, .int .u64 0, .int .u64 0, .int .i64 0, .int .i64 0, .slice none 0 0] 63); rw [World.size_alloc] at this; exact this)
        have h7 : (World.drew ((wr.alloc (.cells #[.int .i64 0, .int .u64 0, .int .i64 0, .int .u64 0, .slice none 0 0, .int .i64 0, .bool false, .int .i64 0, .int .i64 0, .int .u64 0, .int .i64 0, .bool false, .slice none 0 0, .int .i64 0, .int .u64 0, .int .u64 0, .int .u64 0, .int .u64 0, .int .i64 0, .int .u64 0, .int .u64 0, .int .u64 0, .int .u64 0, .int .i64 0, .int .i64 0, .slice none 0 0] 63)).alloc (.cells #[.int .i64 0, .int .u64 0, .int .i64 0, .int .u64 0, .slice none 0 0, .int .i64 0, .bool false, .int .i64 0, .int .i64 0, .int .u64 0, .int .i64 0, .bool false, .slice none 0 0, .int .i64 0, .int .u64 0, .int .u64 0, .int .u64 0, .int .u64 0, .int .i64 0, .int .u64 0, .int .u64 0, .int .u64 0, .int .u64 0, .int .i64 0, .int .i64 0, .slice none 0 0] 63))).heap[wr.heap.size]? = some (.cells #[.int .i64 0, .int .u64 0, .int .i64 0, .int .u64 0, .slice none 0 0, .int .i64 0, .bool false, .int .i64 0, .int .i64 0, .int .u64 0, .int .i64 0, .bool false, .slice none 0 0, .int .i64 0, .int .u64 0, .int .u64 0, .int .u64 0, .int .u64 0, .int .i64 0, .int .u64 0, .int .u64 0, .int .u64 0, .int .u64 0, .int .i64 0, .int .i64 0, .slice none 0 0] 63 (0, 0)) := (blk_below (heap_alloc_new wr _) (bel1 _ _).drew)
        have hbw : Below wr.heap.size wr (World.drew ((wr.alloc (.cells #[.int .i64 0, .int .u64 0, .int .i64 0, .int .u64 0, .slice none 0 0, .int .i64 0, .bool false, .int .i64 0, .int .i64 0, .int .u64 0, .int .i64 0, .bool false, .slice none 0 0, .int .i64 0, .int .u64 0, .int .u64 0, .int .u64 0, .int .u64 0, .int .i64 0, .int .u64 0, .int .u64 0, .int .u64 0, .int .u64 0, .int .i64 0, .int .i64 0, .slice none 0 0] 63)).alloc (.cells #[.int .i64 0, .int .u64 0, .int .i64 0, .int .u64 0, .slice none 0 0, .int .i64 0, .bool false, .int .i64 0, .int .i64 0, .int .u64 0, .int .i64 0, .bool false, .slice none 0 0, .int .i64 0, .int .u64 0, .int .u64 0, .int .u64 0, .int .u64 0, .int .i64 0, .int .u64 0, .int .u64 0, .int .u64 0, .int .u64 0, .int .i64 0, .int .i64 0, .slice none 0 0] 63))) := ((bel1 wr _).trans ((bel1 _ _).mono (by simp))).drew
        have hne : wr.heap.size + 1 ≠ wr.heap.size := by omega
        have hge : wr.heap.size ≤ wr.heap.size + 1 ∧ wr.heap.size ≤ wr.heap.size := by omega
        generalize (World.drew ((wr.alloc (.cells #[.int .i64 0, .int .u64 0, .int .i64 0, .int .u64 0, .slice none 0 0, .int .i64 0, .bool false, .int .i64 0, .int .i64 0, .int .u64 0, .int .i64 0, .bool false, .slice none 0 0, .int .i64 0, .int .u64 0, .int .u64 0, .int .u64 0, .int .u64 0, .int .i64 0, .int .u64 0, .int .u64 0, .int .u64 0, .int .u64 0, .int .i64 0, .int .i64 0, .slice none 0 0] 63)).alloc (.cells #[.int .i64 0, .int .u64 0, .int .i64 0, .int .u64 0, .slice none 0 0, .int .i64 0, .bool false, .int .i64 0, .int .i64 0, .int .u64 0, .int .i64 0, .bool false, .slice none 0 0, .int .i64 0, .int .u64 0, .int .u64 0, .int .u64 0, .int .u64 0, .int .i64 0, .int .u64 0, .int .u64 0, .int .u64 0, .int .u64 0, .int .i64 0, .int .i64 0, .slice none 0 0] 63))) = Z at *
        have hs1 : Mod (fun k => k = wr.heap.size + 1) Z (Z.setRow (wr.heap.size + 1) (encM x1).toArray) := ⟨rfl, rfl, rfl, by simp [World.setRow], fun k _ hk => setRow_other _ _ _ _ hk⟩
        refine tkS 10 (fun K5 hK => ?_)
        rw [if_pos (by kernel_rfl)]
        refine wp_store_row 63 (.tmp 6) (.tmp 22) rfl (wr.heap.size + 1) (encM x1).toArray rfl rfl 63 _ h6 (by kernel_rfl) rfl (all_oneCell_toArray (EM.2 x1)) ?_
        refine hK.out _ _ (hbw.trans (hs1.below hbw.size (fun k e => by omega))) (fun hS3 => ?_)
        clear hK K5
        try simp only [Act.put, s1, s2, s3]
        have k6 : (Z.setRow (wr.heap.size + 1) (encM x1).toArray).heap[wr.heap.size + 1]? = some (.cells (encM x1).toArray 63 (0, 0)) := setRow_heap Z _ _ _ _ _ h6
        have k7 : (Z.setRow (wr.heap.size + 1) (encM x1).toArray).heap[wr.heap.size]? = some (.cells #[.int .i64 0, .int .u64 0, .int .i64 0, .int .u64 0, .slice none 0 0, .int .i64 0, .bool false, .int .i64 0, .int .i64 0, .int .u64 0, .int .i64 0, .bool false, .slice none 0 0, .int .i64 0, .int .u64 0, .int .u64 0, .int .u64 0, .int .u64 0, .int .i64 0, .int .u64 0, .int .u64 0, .int .u64 0, .int .u64 0, .int .i64 0, .int .i64 0, .slice none 0 0] 63 (0, 0)) := (setRow_other Z _ _ _ (Ne.symm hne)).trans h7
        generalize Z.setRow (wr.heap.size + 1) (encM x1).toArray = Z1 at *
        refine tkL 11 (fun K5 hK => ?_)
        rw [if_pos (by kernel_rfl)]
        refine wp_store_row 63 (.tmp 7) (.tmp 26) rfl (wr.heap.size) (encM x2).toArray rfl rfl 63 _ k7 (by kernel_rfl) rfl (all_oneCell_toArray (EM.2 x2)) ?_
        refine hK.out _ _ ?_
        clear hK K5
        try simp only [Act.put, s1, s2, s3]
        have m6 : (Z1.setRow (wr.heap.size) (encM x2).toArray).heap[wr.heap.size + 1]? = some (.cells (encM x1).toArray 63 (0, 0)) := (setRow_other Z1 _ _ _ hne).trans k6
        have m7 : (Z1.setRow (wr.heap.size) (encM x2).toArray).heap[wr.heap.size]? = some (.cells (encM x2).toArray 63 (0, 0)) := setRow_heap Z1 _ _ _ _ _ k7
        have hs2 : Mod (fun k => k = wr.heap.size) Z1 (Z1.setRow (wr.heap.size) (encM x2).toArray) := ⟨rfl, rfl, rfl, by simp [World.setRow], fun k _ hk => setRow_other _ _ _ _ hk⟩
        have hbz : Below wr.heap.size wr (Z1.setRow (wr.heap.size) (encM x2).toArray) := hbw.trans ((hs1.below hbw.size (fun k e => by omega)).trans (hs2.below (Nat.le_trans hbw.size hs1.size) (fun k e => by omega)))
        generalize Z1.setRow (wr.heap.size) (encM x2).toArray = Z2 at *
        generalize hA6 : wr.heap.size + 1 = A6 at m6 ⊢
        generalize hA7 : wr.heap.size = A7 at m7 ⊢
        have HBZ := Lib.hid hbz
        have HX := Lib.hid (And.intro hA6 hA7)
        clear hbz hs1 hs2 hbw h6 h7 k6 k7 hne hge hS0 hS1 hS2 hS3 HT hA6 hA7
        refine wpAnyM_done (by kernel_rfl) (NoPanic.normal ?_)
        have p0 := (cell_of m6 0 (v := .int .i64 x1.m.kind) rfl).1
        have q0 := (cell_of m7 0 (v := .int .i64 x1.m.kind) (by rw [← HE.out.2.2.2]; rfl)).1
        have p1 := (cell_of m6 1 (v := .int .u64 x1.m.term) rfl).1
        have q1 := (cell_of m7 1 (v := .int .u64 x1.m.term) (by rw [← HE.out.2.2.2]; rfl)).1
        have p2 := (cell_of m6 2 (v := .int .i64 x1.m.prev) rfl).1
        have q2 := (cell_of m7 2 (v := .int .i64 x1.m.prev) (by rw [← HE.out.2.2.2]; rfl)).1
        have p3 := (cell_of m6 3 (v := .int .u64 x1.m.pterm) rfl).1
        have q3 := (cell_of m7 3 (v := .int .u64 x1.m.pterm) (by rw [← HE.out.2.2.2]; rfl)).1
        have p4 := (cell_of m6 4 (v := .slice x1.ea x1.m.ents.length x1.ec) rfl).1
        have q4 := (cell_of m7 4 (v := .slice x2.ea x1.m.ents.length x2.ec) (by rw [← HE.out.2.2.2]; rfl)).1
        have p5 := (cell_of m6 5 (v := .int .i64 x1.m.commit) rfl).1
        have q5 := (cell_of m7 5 (v := .int .i64 x1.m.commit) (by rw [← HE.out.2.2.2]; rfl)).1
        have p6 := (cell_of m6 6 (v := .bool x1.m.yes) rfl).1
        have q6 := (cell_of m7 6 (v := .bool x1.m.yes) (by rw [← HE.out.2.2.2]; rfl)).1
        have p7 := (cell_of m6 7 (v := .int .i64 x1.m.mat) rfl).1
        have q7 := (cell_of m7 7 (v := .int .i64 x1.m.mat) (by rw [← HE.out.2.2.2]; rfl)).1
        have p8 := (cell_of m6 8 (v := .int .i64 x1.m.stamp) rfl).1
        have q8 := (cell_of m7 8 (v := .int .i64 x1.m.stamp) (by rw [← HE.out.2.2.2]; rfl)).1
        have n_kind : (x1.m.kind != x1.m.kind) = false := by simp
        have n_term : (x1.m.term != x1.m.term) = false := by simp
        have n_prev : (x1.m.prev != x1.m.prev) = false := by simp
        have n_pterm : (x1.m.pterm != x1.m.pterm) = false := by simp
        have n_commit : (x1.m.commit != x1.m.commit) = false := by simp
        have n_mat : (x1.m.mat != x1.m.mat) = false := by simp
        have n_stamp : (x1.m.stamp != x1.m.stamp) = false := by simp
        have n_yes : (x1.m.yes != x1.m.yes) = false := by simp
        have h9 := rsame_any x1.m.ents x2.m.ents x1.ea x2.ea x1.ec x2.ec Z2 (ents_below HE.out.1 HBZ.out) (ents_below HE.out.2.1 HBZ.out) (by have := HE.out.2.2.1; unfold maxLen; omega)
        rw [HE.out.2.2.2, show decide (x1.m.ents = x1.m.ents) = true by simp] at h9
        have HSM := Lib.hid h9
        clear h9
        clear m6 m7
        go_wp2_with (go_at_call 18; refine HSM.out.mono ?_; rintro e w3 ⟨rfl, nq, rfl⟩)
        go_roundg (gk - 1)
        case measure => omega
        case rel => exact ⟨i + 1, by omega, by simp, HB.out.trans ((HBZ.out.trans ((below_drewN' Z2 nq).mono HBZ.out.size)).mono HB.out.size)⟩
    · obtain rfl : i = n := by omega
      go_wp2
      go_ret
      exact retB rfl HB.out
end Go.Proofs.YtcleaamjfjnkkaaGreat
