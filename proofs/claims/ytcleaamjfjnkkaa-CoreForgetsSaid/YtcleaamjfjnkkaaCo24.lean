/- Entries that come: those of a leader. -/
import Derived.Test.YtcleaamjfjnkkaaCo23
namespace Go.Proofs.Ytcleaamjfjnkkaa
open Go.RowKit Go.Joins

theorem take_fr {p N : Nat} {lv lv' ov tv : Value} (h : ∀ g, lv'.ownBlock = some g → N ≤ g) : ∀ k, CF p lv' ov tv k → CF p lv ov tv k ∨ N ≤ k := by
  rintro k (e | e | e | e)
  · exact .inl (.inl e)
  · exact .inr (h k e)
  · exact .inl (.inr (.inr (.inl e)))
  · exact .inl (.inr (.inr (.inr e)))
theorem TakW.relog {w0 w w5 : World} {n0 base p : Nat} {lv lv' ov tv : Value} {os : List RM} {f : Int} {mb : Array Value} {c : Co} {es : List Ent} (h : TakW w0 n0 base p lv ov tv os f mb c w) (h5 : CAt w5 base p lv ov tv os c) (hb : Below w5.heap.size w5 w) (ho : OwnE w w5.heap.size lv' es) :
    TakW w0 n0 base p lv' ov tv os f mb { c with log := es } (w.setCell ⟨p, 3, none⟩ lv') := by
  have hn : lv'.ownBlock ≠ some p := ownR_not ho h.cat.blk (fun cs e => by simp at e)
  have hM : Mod (fun k => k = p) w (w.setCell ⟨p, 3, none⟩ lv') := Mod.cellOf p 3 lv'
  obtain ⟨n1, n2, n3⟩ := h.cat.nots
  have hlt := World.ownsRow.lt ho
  refine ⟨{ blk := by rw [setCell_blk h.cat.blk]; rfl, bp := h.cat.bp, log := OwnE.mono (hM.own ho (fun g hg e => hn (e ▸ hg))) (by have := h5.toCL.lt.1; omega), out := hM.own h.cat.out (fun g hg e => n2 (e ▸ hg)), dst := hM.own h.cat.dst (fun g hg e => n3 (e ▸ hg)), ghl := Nat.le_trans h.cat.ghl hM.size, eq := h.cat.eq, ents := fun x hx => ?_ }, hM.heap h.b0 h.ne.1, hM.heap h.b1 h.ne.2.1, hM.heap h.b2 h.ne.2.2, h.mod.trans hM, h.ne⟩
  refine (h5.ents x hx).mod ((Mod.bel hb).trans (hM.mono (fun _ _ e => Or.inl (Or.inl e)))) (sf_step rfl (take_fr (fun g hg => (hlt g hg).1)))
theorem fits_le {es : List Ent} {prev term : Int} (h : fitsB es prev term = true) : 0 ≤ prev ∧ prev ≤ es.length := by
  unfold fitsB at h
  simp only [Bool.and_eq_true, decide_eq_true_eq] at h
  omega
theorem join_le (es : List Ent) (prev : Int) (more : List Ent) : (joinL es prev more).length ≤ es.length + more.length := by
  unfold joinL
  split
  · omega
  · split
    · omega
    · simp only [List.length_append, List.length_take, List.length_drop]; omega
theorem wf_mem {es : List Ent} : (∀ i, i < es.length → wfE (es.getD i default)) ↔ ∀ e ∈ es, wfE e := by
  constructor
  · intro h e he
    obtain ⟨i, hi, rfl⟩ := List.getElem_of_mem he
    simpa [List.getD, hi] using h i hi
  · intro h i hi
    simpa [List.getD, hi] using h _ (List.getElem_mem hi)
theorem join_mem {es : List Ent} {prev : Int} {more : List Ent} {e : Ent} (h : e ∈ joinL es prev more) : e ∈ es ∨ e ∈ more := by
  unfold joinL at h
  split at h
  · exact .inl h
  · split at h
    · exact .inl h
    · rcases List.mem_append.1 h with h | h
      · exact .inl (List.mem_of_mem_take h)
      · exact .inr (List.mem_of_mem_drop h)
theorem join_wf {es more : List Ent} (prev : Int) (h1 : ∀ i, i < es.length → wfE (es.getD i default)) (h2 : ∀ i, i < more.length → wfE (more.getD i default)) : ∀ i, i < (joinL es prev more).length → wfE ((joinL es prev more).getD i default) := by
  rw [wf_mem] at *
  intro e he
  rcases join_mem he with h | h
  · exact h1 e h
  · exact h2 e h
theorem same_len2 (n : Nat) (xs ys : List Ent) (ax ay : Option Addr) (cx cy : Nat) (w : World) (h1 : xs.length = n) (h2 : ys.length = n) (hx : Ents w ax xs) (hy : Ents w ay ys) (hn : n ≤ 5000) :
    Calls Try.prog 52 #[.slice ax n cx, .slice ay n cy] w (QuietB (decide (xs = ys)) w) := by
  have h := same_any xs ys ax ay cx cy w hx hy (by unfold maxLen; omega)
  rw [h1, h2] at h
  exact h
theorem cel3_bel {a b c : Addr} {x y z : Value} {w w' : World} (h : Cel3 a x b y c z w) (hb : Below w.heap.size w w') : Cel3 a x b y c z w' := ⟨(hb.cell (World.block_lt_of_cell? _ _ h.1)).trans h.1, (hb.cell (World.block_lt_of_cell? _ _ h.2.1)).trans h.2.1, (hb.cell (World.block_lt_of_cell? _ _ h.2.2)).trans h.2.2⟩
theorem OwnE.bel {w w' : World} {base : Nat} {v : Value} {es : List Ent} (h : OwnE w base v es) (hb : Below w.heap.size w w') : OwnE w' base v es := OwnL.below (enc := encE) h hb
/-- .. and a log that is new since W. -/
def TakR (w0 : World) (n0 base p : Nat) (lv ov tv : Value) (os : List RM) (f : Int) (mb : Array Value) (c : Co) (W : World) (jv : Value) (J : List Ent) (w : World) : Prop :=
  TakW w0 n0 base p lv ov tv os f mb c w ∧ OwnE w W.heap.size jv J ∧ Below W.heap.size W w
theorem ok_takeD {c : Co} (h : Ok c) {m : Mg} (h0 : 0 ≤ m.term) (h1 : m.term ≤ 18446744073709551615) (f : Int) : Ok (c.takeD f m) := by
  have k := ok_follow h h0 h1
  have hn := (follow_out c m.term).2.2.2.2.2.1
  have hnow := h.now
  rw [← hn] at hnow
  exact ⟨k.me, k.term, k.voted, k.log, k.wf, k.commit, h.now, h.now, k.now, k.timeout, k.pr, fun e => absurd e (by show ¬ (0 : Int) = 2; omega)⟩
set_option linter.unusedSimpArgs false in
set_option linter.unusedVariables false in
set_option maxHeartbeats 8000000 in
set_option maxRecDepth 100000 in
theorem take_go {w : World} {base p : Nat} {lv ov tv : Value} {os : List RM} {c : Co} (m : Mg) (ea : Option Addr) (en ec : Nat) (r : Nat → Value) (f : Int) (h : CAt w base p lv ov tv os c) (ok : Ok c) (hE : EAt w (CF p lv ov tv) ⟨ea, ec, m⟩) (hen : m.ents.length = en) (ht0 : 0 ≤ m.term) (ht1 : m.term ≤ 18446744073709551615) (hpv : I64 m.prev) (hcm : I64 m.commit) (hle : m.ents.length ≤ 1000) (hwf : ∀ i, i < m.ents.length → wfE (m.ents.getD i default)) (hl : c.out.length ≤ 80) (hd : c.dest.length ≤ 80) (ht : ¬ m.term < c.term) (hr : ¬ (c.role = 2 ∧ m.term = c.term)) :
    Calls Try.prog 47 #[.pointer (some ⟨p, 0, none⟩), .int .i64 f, .agg #[.int .i64 m.kind, .int .u64 m.term, .int .i64 m.prev, .int .u64 m.pterm, .slice ea en ec, .int .i64 m.commit, .bool m.yes, .int .i64 m.mat, .int .i64 m.stamp, r 0, r 1, r 2, r 3, r 4, r 5, r 6, r 7, r 8, r 9, r 10, r 11, r 12, r 13, r 14, r 15, r 16]] w (Tup0 (CUpd base p lv ov tv (c.take f m) w)) := by
  have mixed : Try.prog.follows .mixedOrders = true := by kernel_rfl
  have HW := Lib.hid (show Below w.heap.size w (((w.alloc (.cells #[.pointer (some ⟨p, 0, none⟩)] 31)).alloc (.cells #[.int .i64 f] 3)).alloc (.cells (mArr m ea m.ents.length ec r) 46)) from (bel1 w _).trans (((bel1 _ _).trans ((bel1 _ _).mono (by simp))).mono (by simp)))
  have A0 := Lib.hid (show TakW (((w.alloc (.cells #[.pointer (some ⟨p, 0, none⟩)] 31)).alloc (.cells #[.int .i64 f] 3)).alloc (.cells (mArr m ea m.ents.length ec r) 46)) w.heap.size base p lv ov tv os f (mArr m ea m.ents.length ec r) c (((w.alloc (.cells #[.pointer (some ⟨p, 0, none⟩)] 31)).alloc (.cells #[.int .i64 f] 3)).alloc (.cells (mArr m ea m.ents.length ec r) 46)) from
    ⟨h.below HW.out, blk_below (blk_below (heap_alloc_new w (.cells #[.pointer (some ⟨p, 0, none⟩)] 31)) (bel1 _ (.cells #[.int .i64 f] 3))) (bel1 _ (.cells (mArr m ea m.ents.length ec r) 46)), blk_below (heap_alloc2_new w (.cells #[.pointer (some ⟨p, 0, none⟩)] 31) (.cells #[.int .i64 f] 3)) (bel1 _ (.cells (mArr m ea m.ents.length ec r) 46)), (by have h5 := heap_alloc_new ((w.alloc (.cells #[.pointer (some ⟨p, 0, none⟩)] 31)).alloc (.cells #[.int .i64 f] 3)) (.cells (mArr m ea m.ents.length ec r) 46); simpa using h5), Mod.refl _ _, by have := h.toCL.lt.1; omega⟩)
  have HL := Lib.hid (And.intro hl hd)
  have x0 := (cell_of A0.out.b0 0 (v := .pointer (some ⟨p, 0, none⟩)) rfl).1
  have x1 := (cell_of A0.out.b1 0 (v := .int .i64 f) rfl).1
  have x2 := (cell_of A0.out.b2 1 (v := .int .u64 m.term) rfl).1
  obtain ⟨g1, g5⟩ := (And.intro A0.out.cat.toCL.cells.1.2.1 A0.out.cat.toCL.cells.1.2.2.2.2.2.1)
  have HT := Lib.hid (show c.take f m = if fitsB (c.takeD f m).log m.prev m.pterm = false then (c.takeD f m).back f false (max 0 (min ((c.takeD f m).log.length : Int) (max m.prev 0 - 1))) m.stamp else if (c.takeD f m).joinOk m = false then c.takeD f m else ({ (c.takeD f m) with log := joinL (c.takeD f m).log m.prev m.ents, commit := max (c.takeD f m).commit (min m.commit (m.prev + (m.ents.length : Int))) }).back f true (m.prev + (m.ents.length : Int)) m.stamp by unfold Co.take; rw [if_neg ht, if_neg hr])
  have tb : decide (m.term < c.term) = false := decide_eq_false ht
  have hti : c.term ≤ m.term := by omega
  subst hen
  have HOK := Lib.hid ok
  have HEN := Lib.hid (And.intro (hE.mod (Mod.bel HW.out) (fun _ hk => .inl hk) : EAt (((w.alloc (.cells #[.pointer (some ⟨p, 0, none⟩)] 31)).alloc (.cells #[.int .i64 f] 3)).alloc (.cells (mArr m ea m.ents.length ec r) 46)) (CF p lv ov tv) ⟨ea, ec, m⟩) hwf)
  have HI := Lib.hid (And.intro hpv (And.intro hcm hle))
  have HTT := Lib.hid (And.intro ht0 ht1)
  have HR := Lib.hid hr
  clear h ok hE ht0 ht1 hpv hcm hle hwf hl hd ht hr
  go_enter Try.func47, Try.ntmps47
  go_upto_region 2 with fail
  go_quiet (fail)
  go_upto_region 4 with fail
  have A1 := Lib.hid (A0.out.below (below_drewN' (((w.alloc (.cells #[.pointer (some ⟨p, 0, none⟩)] 31)).alloc (.cells #[.int .i64 f] 3)).alloc (.cells (mArr m ea m.ents.length ec r) 46)) nq))
  clear x0 x1 x2 g1 g5
  generalize (World.drewN (((w.alloc (.cells #[.pointer (some ⟨p, 0, none⟩)] 31)).alloc (.cells #[.int .i64 f] 3)).alloc (.cells (mArr m ea m.ents.length ec r) 46)) nq) = w1 at *
  have x0 := (cell_of A1.out.b0 0 (v := .pointer (some ⟨p, 0, none⟩)) rfl).1
  have x2 := (cell_of A1.out.b2 1 (v := .int .u64 m.term) rfl).1
  obtain ⟨g1, g5⟩ := (And.intro A1.out.cat.toCL.cells.1.2.1 A1.out.cat.toCL.cells.1.2.2.2.2.2.1)
  go_cut [37] (fun v wx => v = .bool false ∧ TakW (((w.alloc (.cells #[.pointer (some ⟨p, 0, none⟩)] 31)).alloc (.cells #[.int .i64 f] 3)).alloc (.cells (mArr m ea m.ents.length ec r) 46)) w.heap.size base p lv ov tv os f (mArr m ea m.ents.length ec r) c wx)
  case first =>
    by_cases hr1 : c.role = 2
    · have t1 : (c.role == 2) = true := by simp [hr1]
      have t2 : (m.term == c.term) = false := by have := HR.out; simp; intro e; exact this ⟨hr1, e⟩
      clear hr1
      go_quiet (fail)
      go_wp2
      go_meet
      exact ⟨rfl, A1.out.below (below_drewN' _ _)⟩
    · have t1 : (c.role == 2) = false := by simp [hr1]
      clear hr1
      go_quiet (fail)
      go_wp2
      go_meet
      exact ⟨rfl, A1.out.below (below_drewN' _ _)⟩
  case rest =>
    obtain ⟨hc1, hcut⟩ := hcut
    subst hc1
    clear x0 x2 g1 g5 A1
    have A2 := Lib.hid hcut
    clear hcut
    have x0 := (cell_of A2.out.b0 0 (v := .pointer (some ⟨p, 0, none⟩)) rfl).1
    have x2 := (cell_of A2.out.b2 1 (v := .int .u64 m.term) rfl).1
    have HF := Lib.hid (follow_any m.term A2.out.cat)
    have HO := Lib.hid (follow_out c m.term)
    go_upto_region 6 with (go_at_call 61; refine HF.out.mono ?_; rintro e w3 ⟨rfl, hC, hM⟩; have A3 := Lib.hid (show TakW (((w.alloc (.cells #[.pointer (some ⟨p, 0, none⟩)] 31)).alloc (.cells #[.int .i64 f] 3)).alloc (.cells (mArr m ea m.ents.length ec r) 46)) w.heap.size base p lv ov tv os f (mArr m ea m.ents.length ec r) (c.follow m.term) w3 from ⟨hC, hM.heap A2.out.b0 A2.out.ne.1, hM.heap A2.out.b1 A2.out.ne.2.1, hM.heap A2.out.b2 A2.out.ne.2.2, A2.out.mod.trans hM, A2.out.ne⟩); clear hC hM)
    clear x0 x2 HF A2
    have HD := Lib.hid (show c.takeD f m = { (c.follow m.term) with role := 0, head := f, heard := (c.follow m.term).now, since := (c.follow m.term).now } by unfold Co.takeD; rw [HO.out.2.2.2.2.2.1])
    have HCL := Lib.hid (show Cel2 ⟨w.heap.size, 0, none⟩ (.pointer (some ⟨p, 0, none⟩)) ⟨w.heap.size + 1, 0, none⟩ (.int .i64 f) w3 from ⟨(cell_of A3.out.b0 0 rfl).1, (cell_of A3.out.b1 0 rfl).1⟩)
    have hz5 := (cell_of A3.out.cat.blk 5 (v := .int .i64 (c.follow m.term).role) rfl)
    have hz6 := (cell_of A3.out.cat.blk 6 (v := .int .i64 (c.follow m.term).head) rfl)
    obtain ⟨z5, z5f⟩ := hz5
    obtain ⟨z6, z6f⟩ := hz6
    obtain ⟨Y, hY⟩ : ∃ Y, Y = w3 := ⟨_, rfl⟩
    subst hY
    refine wp_region_noPanic ?_
    refine wp_region_lim (Cel2 ⟨w.heap.size, 0, none⟩ (.pointer (some ⟨p, 0, none⟩)) ⟨w.heap.size + 1, 0, none⟩ (.int .i64 f)) (fun i => decide (i < 8)) (fun i => false) (by kernel_rfl) (by kernel_rfl) ⟨keepc' HCL.out.1 (Below.refl _ _).drew, keepc' HCL.out.2 (Below.refl _ _).drew⟩ (fun HT hS0 => ?_)
    refine tkD HT 0 42 (v := ?_) ?_ ?_
    rotate_left
    · (intro w5 hSw; obtain ⟨q1, q2⟩ := hSw; go_simp; (try with_reducible rfl))
    try simp only [s1, s2, s3]
    refine tkD HT 1 43 (v := ?_) ?_ ?_
    rotate_left
    · (intro w5 hSw; obtain ⟨q1, q2⟩ := hSw; go_simp; (try with_reducible rfl))
    try simp only [s1, s2, s3]
    refine tkD HT 2 44 (v := ?_) ?_ ?_
    rotate_left
    · (intro w5 hSw; obtain ⟨q1, q2⟩ := hSw; go_simp; (try with_reducible rfl))
    try simp only [s1, s2, s3]
    refine tkD HT 3 45 (v := ?_) ?_ ?_
    rotate_left
    · (intro w5 hSw; obtain ⟨q1, q2⟩ := hSw; go_simp; (try with_reducible rfl))
    try simp only [s1, s2, s3]
    refine tkD HT 4 46 (v := ?_) ?_ ?_
    rotate_left
    · (intro w5 hSw; obtain ⟨q1, q2⟩ := hSw; go_simp; (try with_reducible rfl))
    try simp only [s1, s2, s3]
    refine tkS 5 (fun K5 hK => ?_)
    go_simp
    refine hK.out _ _ ⟨box_keep hS0.1 (Mod.cellOf p 5 _) A3.out.ne.1, box_keep hS0.2 (Mod.cellOf p 5 _) A3.out.ne.2.1⟩ (fun hS1 => ?_)
    clear hK K5
    try simp only [Act.put, s1, s2, s3]
    refine tkD HT 6 47 (v := ?_) ?_ ?_
    rotate_left
    · (intro w5 hSw; obtain ⟨q1, q2⟩ := hSw; go_simp; (try with_reducible rfl))
    try simp only [s1, s2, s3]
    refine tkD HT 7 48 (v := ?_) ?_ ?_
    rotate_left
    · (intro w5 hSw; obtain ⟨q1, q2⟩ := hSw; go_simp; (try with_reducible rfl))
    try simp only [s1, s2, s3]
    refine tkL 8 (fun K5 hK => ?_)
    go_simp
    refine hK.out _ _ ?_
    clear hK K5
    try simp only [Act.put, s1, s2, s3]
    refine wpAnyM_done (by kernel_rfl) (NoPanic.normal ?_)
    have A4 := Lib.hid (show TakW (((w.alloc (.cells #[.pointer (some ⟨p, 0, none⟩)] 31)).alloc (.cells #[.int .i64 f] 3)).alloc (.cells (mArr m ea m.ents.length ec r) 46)) w.heap.size base p lv ov tv os f (mArr m ea m.ents.length ec r) ({ (c.follow m.term) with role := 0, head := f } : Co) (World.drew ((Y.setCell ⟨p, 5, none⟩ (.int .i64 0)).setCell ⟨p, 6, none⟩ (.int .i64 f))) from (A3.out.put (c' := { (c.follow m.term) with role := 0, head := f }) (w' := (Y.setCell ⟨p, 5, none⟩ (.int .i64 0)).setCell ⟨p, 6, none⟩ (.int .i64 f)) (by rw [setCell_blk (setCell_blk A3.out.cat.blk)]; rfl) ((Mod.cellOf p 5 _).trans (Mod.cellOf p 6 _)) rfl rfl rfl).below (Below.refl _ _).drew)
    clear z5 z5f z6 z6f hS0
    generalize (World.drew ((Y.setCell ⟨p, 5, none⟩ (.int .i64 0)).setCell ⟨p, 6, none⟩ (.int .i64 f))) = w4 at *
    have HC4 := Lib.hid (show Cel2 ⟨w.heap.size, 0, none⟩ (.pointer (some ⟨p, 0, none⟩)) ⟨p, 10, none⟩ (.int .i64 (c.follow m.term).now) w4 from ⟨(cell_of A4.out.b0 0 rfl).1, A4.out.cat.toCL.cells.1.2.2.2.2.2.2.2.2.2.2.1⟩)
    obtain ⟨z7, z7f⟩ := (cell_of A4.out.cat.blk 7 (v := .int .i64 (c.follow m.term).heard) rfl)
    obtain ⟨z8, z8f⟩ := (cell_of A4.out.cat.blk 8 (v := .int .i64 (c.follow m.term).since) rfl)
    clear HCL
    go_upto_region 7 with fail
    obtain ⟨Y, hY⟩ : ∃ Y, Y = w4 := ⟨_, rfl⟩
    subst hY
    refine wp_region_noPanic ?_
    refine wp_region_lim (Cel2 ⟨w.heap.size, 0, none⟩ (.pointer (some ⟨p, 0, none⟩)) ⟨p, 10, none⟩ (.int .i64 (c.follow m.term).now)) (fun i => decide (i < 15)) (fun i => false) (by kernel_rfl) (by kernel_rfl) ⟨keepc' HC4.out.1 (Below.refl _ _).drew, keepc' HC4.out.2 (Below.refl _ _).drew⟩ (fun HT hS0 => ?_)
    refine tkD HT 0 49 (v := ?_) ?_ ?_
    rotate_left
    · (intro w5 hSw; obtain ⟨q1, q2⟩ := hSw; go_simp; (try with_reducible rfl))
    try simp only [s1, s2, s3]
    refine tkD HT 1 50 (v := ?_) ?_ ?_
    rotate_left
    · (intro w5 hSw; obtain ⟨q1, q2⟩ := hSw; go_simp; (try with_reducible rfl))
    try simp only [s1, s2, s3]
    refine tkD HT 2 51 (v := ?_) ?_ ?_
    rotate_left
    · (intro w5 hSw; obtain ⟨q1, q2⟩ := hSw; go_simp; (try with_reducible rfl))
    try simp only [s1, s2, s3]
    refine tkD HT 3 52 (v := ?_) ?_ ?_
    rotate_left
    · (intro w5 hSw; obtain ⟨q1, q2⟩ := hSw; go_simp; (try with_reducible rfl))
    try simp only [s1, s2, s3]
    refine tkD HT 4 53 (v := ?_) ?_ ?_
    rotate_left
    · (intro w5 hSw; obtain ⟨q1, q2⟩ := hSw; go_simp; (try with_reducible rfl))
    try simp only [s1, s2, s3]
    refine tkD HT 5 54 (v := ?_) ?_ ?_
    rotate_left
    · (intro w5 hSw; obtain ⟨q1, q2⟩ := hSw; go_simp; (try with_reducible rfl))
    try simp only [s1, s2, s3]
    refine tkD HT 6 55 (v := ?_) ?_ ?_
    rotate_left
    · (intro w5 hSw; obtain ⟨q1, q2⟩ := hSw; go_simp; (try with_reducible rfl))
    try simp only [s1, s2, s3]
    refine tkD HT 7 56 (v := ?_) ?_ ?_
    rotate_left
    · (intro w5 hSw; obtain ⟨q1, q2⟩ := hSw; go_simp; (try with_reducible rfl))
    try simp only [s1, s2, s3]
    refine tkD HT 8 57 (v := ?_) ?_ ?_
    rotate_left
    · (intro w5 hSw; obtain ⟨q1, q2⟩ := hSw; go_simp; (try with_reducible rfl))
    try simp only [s1, s2, s3]
    refine tkD HT 9 58 (v := ?_) ?_ ?_
    rotate_left
    · (intro w5 hSw; obtain ⟨q1, q2⟩ := hSw; go_simp; (try with_reducible rfl))
    try simp only [s1, s2, s3]
    refine tkD HT 10 59 (v := ?_) ?_ ?_
    rotate_left
    · (intro w5 hSw; obtain ⟨q1, q2⟩ := hSw; go_simp; (try with_reducible rfl))
    try simp only [s1, s2, s3]
    refine tkD HT 11 60 (v := ?_) ?_ ?_
    rotate_left
    · (intro w5 hSw; obtain ⟨q1, q2⟩ := hSw; go_simp; (try with_reducible rfl))
    try simp only [s1, s2, s3]
    refine tkS 12 (fun K5 hK => ?_)
    go_simp
    refine hK.out _ _ ⟨box_keep hS0.1 (Mod.cellOf p 7 _) A4.out.ne.1, set_other hS0.2 (by omega)⟩ (fun hS1 => ?_)
    clear hK K5
    try simp only [Act.put, s1, s2, s3]
    refine tkD HT 13 61 (v := ?_) ?_ ?_
    rotate_left
    · (intro w5 hSw; obtain ⟨q1, q2⟩ := hSw; go_simp; (try with_reducible rfl))
    try simp only [s1, s2, s3]
    refine tkD HT 14 62 (v := ?_) ?_ ?_
    rotate_left
    · (intro w5 hSw; obtain ⟨q1, q2⟩ := hSw; go_simp; (try with_reducible rfl))
    try simp only [s1, s2, s3]
    refine tkL 15 (fun K5 hK => ?_)
    go_simp
    refine hK.out _ _ ?_
    clear hK K5
    try simp only [Act.put, s1, s2, s3]
    refine wpAnyM_done (by kernel_rfl) (NoPanic.normal ?_)
    have A5 := Lib.hid (show TakW (((w.alloc (.cells #[.pointer (some ⟨p, 0, none⟩)] 31)).alloc (.cells #[.int .i64 f] 3)).alloc (.cells (mArr m ea m.ents.length ec r) 46)) w.heap.size base p lv ov tv os f (mArr m ea m.ents.length ec r) (c.takeD f m) (World.drew ((Y.setCell ⟨p, 7, none⟩ (.int .i64 (c.follow m.term).now)).setCell ⟨p, 8, none⟩ (.int .i64 (c.follow m.term).now))) by rw [HD.out]; exact (A4.out.put (c' := { (c.follow m.term) with role := 0, head := f, heard := (c.follow m.term).now, since := (c.follow m.term).now }) (w' := (Y.setCell ⟨p, 7, none⟩ (.int .i64 (c.follow m.term).now)).setCell ⟨p, 8, none⟩ (.int .i64 (c.follow m.term).now)) (by rw [setCell_blk (setCell_blk A4.out.cat.blk)]; rfl) ((Mod.cellOf p 7 _).trans (Mod.cellOf p 8 _)) rfl rfl rfl).below (Below.refl _ _).drew)
    clear z7 z7f z8 z8f hS0
    generalize (World.drew ((Y.setCell ⟨p, 7, none⟩ (.int .i64 (c.follow m.term).now)).setCell ⟨p, 8, none⟩ (.int .i64 (c.follow m.term).now))) = w5 at *
    have DOK := Lib.hid (ok_takeD HOK.out HTT.out.1 HTT.out.2 f)
    have DO := Lib.hid (show (c.takeD f m).out.length ≤ 80 ∧ (c.takeD f m).dest.length ≤ 80 from ⟨by show (c.follow m.term).out.length ≤ 80; rw [HO.out.1]; exact HL.out.1, by show (c.follow m.term).dest.length ≤ 80; rw [HO.out.2.1]; exact HL.out.2⟩)
    clear HD HR HOK HC4 HO
    generalize c.takeD f m = d at *
    obtain ⟨la, lc, hv, hsl, -⟩ := own_sl A5.out.cat.log
    subst hv
    have HSL := Lib.hid hsl
    have y0 := (cell_of A5.out.b0 0 (v := .pointer (some ⟨p, 0, none⟩)) rfl).1
    have y2 := (cell_of A5.out.b2 2 (v := .int .i64 m.prev) rfl).1
    have y3 := (cell_of A5.out.b2 3 (v := .int .u64 m.pterm) rfl).1
    have y4 := (cell_of A5.out.b2 4 (v := .slice ea m.ents.length ec) rfl).1
    have g3 := A5.out.cat.toCL.cells.1.2.2.2.1
    have HFI := Lib.hid (fits_any la lc d.log m.prev m.pterm w5 hsl.ents hsl.len hsl.capm)
    have hlog : (d.log.length : Int) ≤ 300 := by have := DOK.out.log; omega
    clear hsl
    cases hf : fitsB d.log m.prev m.pterm with
    | false =>
      have HT2 := Lib.hid (HT.out.trans (if_pos hf))
      rw [hf] at HFI
      obtain ⟨a, ha⟩ : ∃ a, a = max m.prev 0 := ⟨_, rfl⟩
      obtain ⟨b, hb⟩ : ∃ b, b = min (d.log.length : Int) (a - 1) := ⟨_, rfl⟩
      obtain ⟨k, hk⟩ : ∃ k, k = max 0 b := ⟨_, rfl⟩
      have ha0 : 0 ≤ a := by omega
      have ha1 : a ≤ 9223372036854775807 := by have := HI.out.1.2; omega
      have iA : (if m.prev < 0 then 0 else m.prev) = a := by rw [ha]; split <;> omega
      have iB : (if a - 1 < (d.log.length : Int) then a - 1 else (d.log.length : Int)) = b := by rw [hb]; split <;> omega
      have iK : (if 0 < b then b else 0) = k := by rw [hk]; split <;> omega
      have HT3 := Lib.hid (show c.take f m = d.back f false k m.stamp by rw [HT2.out, hk, hb, ha])
      have HBK := Lib.hid (back_any m ea m.ents.length ec r f k false w.heap.size A5.out DO.out.1 DO.out.2)
      clear ha hb hk hf HT HT2
      go_wp2_with (first
        | (go_at_call 65; refine HFI.out.mono ?_; rintro e w6 ⟨rfl, rfl⟩)
        | (go_at_call 64; refine HBK.out.mono ?_; rintro e w6 ⟨rfl, hU⟩))
      go_end0
      rw [HT3.out]
      exact ⟨rfl, CUpd.below HW.out (CUpd.then (A5.out.mod.mono (fun _ _ e => Or.inl e)) (fun _ hk => .inl hk) hU)⟩
    | true =>
      have HT2 := Lib.hid (HT.out.trans (if_neg (by rw [hf]; simp)))
      rw [hf] at HFI
      obtain ⟨hp0, hp1⟩ := fits_le hf
      have HME := Lib.hid (show Sl w5 ea ec m.ents from HEN.out.1.1.mod A5.out.mod (fun b off e hp => (HEN.out.1.2 b off e).2 (Or.inl hp)))
      have HJN := Lib.hid (join_any la ea lc ec d.log m.ents m.prev w5 HSL.out HME.out (by have := HI.out.2.2; omega))
      have HJL := Lib.hid (join_le d.log m.prev m.ents)
      have HJW := Lib.hid (join_wf m.prev DOK.out.wf HEN.out.2)
      have HJO := Lib.hid (show d.joinOk m = (decide (checkE (joinL d.log m.prev m.ents) = 0) && decide (lastT (joinL d.log m.prev m.ents) ≤ m.term) && decide (d.commit ≤ ((joinL d.log m.prev m.ents).length : Int)) && decide ((joinL d.log m.prev m.ents).take d.commit.toNat = d.log.take d.commit.toNat)) from rfl)
      have hml : (m.ents.length : Int) ≤ 1000 := by have := HI.out.2.2; omega
      clear hf HT
      generalize joinL d.log m.prev m.ents = J at *
      go_upto_region 12 with (first
        | (go_at_call 65; refine HFI.out.mono ?_; rintro e w6 ⟨rfl, rfl⟩)
        | (go_at_call 66; refine HJN.out.mono ?_; rintro e w6 hO; obtain ⟨ja, jc, rfl, hjs, hjk, hjb⟩ := own_sl2 hO rfl; obtain ⟨v6, hv6, hO2, -⟩ := hO; obtain rfl : Value.slice ja J.length jc = v6 := by simpa using hv6
           have A6 := Lib.hid (A5.out.below hjb); have HJS := Lib.hid hjs; have HJB := Lib.hid hjb; have HOW := Lib.hid hO2; clear hjs hjk hjb hO2 hv6))
      clear y0 y2 y3 y4 g3
      obtain ⟨n, hn⟩ : ∃ n : Nat, d.commit = (n : Int) := ⟨d.commit.toNat, by have := DOK.out.commit.1; omega⟩
      have hnl : (n : Int) ≤ (d.log.length : Int) := by have := DOK.out.commit.2; omega
      have hlc : (d.log.length : Int) ≤ (lc : Int) := by have := HSL.out.len; omega
      have hjc : (J.length : Int) ≤ (jc : Int) := by have := HJS.out.len; omega
      have HN := Lib.hid hn
      have hdt : d.commit.toNat = n := by omega
      rw [hdt] at HJO
      clear hdt hn
      go_cut [125] (fun v wx => v = .bool (!d.joinOk m) ∧ TakR (((w.alloc (.cells #[.pointer (some ⟨p, 0, none⟩)] 31)).alloc (.cells #[.int .i64 f] 3)).alloc (.cells (mArr m ea m.ents.length ec r) 46)) w.heap.size base p (.slice la d.log.length lc) ov tv os f (mArr m ea m.ents.length ec r) d w5 (.slice ja J.length jc) J wx)
      case first =>
        have HCK := Lib.hid (fun W (hb : Below w6.heap.size w6 W) => check_any ja jc J W (ents_below HJS.out.ents hb) (by unfold maxLen; have := HJL.out; have := HI.out.2.2; have := DOK.out.log; omega) HJW.out)
        have HLA := Lib.hid (fun W (hb : Below w6.heap.size w6 W) => clast_any ja jc J W (ents_below HJS.out.ents hb) (by unfold maxLen; have := HJL.out; have := HI.out.2.2; have := DOK.out.log; omega))
        have HSA := Lib.hid (fun W (hb : Below w6.heap.size w6 W) (h1 : n ≤ J.length) => same_len2 n (J.take n) (d.log.take n) ja la jc lc W (by simp; omega) (by simp; omega) (ents_below (ents_take HJS.out.ents n) hb) (ents_below (ents_take (ents_below HSL.out.ents HJB.out) n) hb) (by omega))
        have HC := Lib.hid (show Cel3 ⟨w.heap.size, 0, none⟩ (.pointer (some ⟨p, 0, none⟩)) ⟨w.heap.size + 1 + 1, 1, none⟩ (.int .u64 m.term) ⟨p, 4, none⟩ (.int .i64 (n : Int)) w6 from ⟨(cell_of A6.out.b0 0 rfl).1, (cell_of A6.out.b2 1 rfl).1, by rw [← HN.out]; exact A6.out.cat.toCL.cells.1.2.2.2.2.1⟩)
        obtain ⟨ck, hck⟩ : ∃ ck, ck = checkE J := ⟨_, rfl⟩
        obtain ⟨lt, hlt⟩ : ∃ lt, lt = lastT J := ⟨_, rfl⟩
        rw [← hck] at HCK HJO
        rw [← hlt] at HLA HJO
        clear hck hlt
        by_cases hc : ck = 0
        · subst hc
          by_cases ht2 : m.term < lt
          · skip
            have hb2 : decide (m.term < lt) = true := decide_eq_true ht2
            have HCN := Lib.hid ht2
            obtain ⟨Y, hY⟩ : ∃ Y, Y = w6 := ⟨_, rfl⟩
            subst hY
            refine wp_region_noPanic ?_
            refine wp_region_lim (Cel3 ⟨w.heap.size, 0, none⟩ (.pointer (some ⟨p, 0, none⟩)) ⟨w.heap.size + 1 + 1, 1, none⟩ (.int .u64 m.term) ⟨p, 4, none⟩ (.int .i64 (n : Int))) (fun i => decide (i < 35)) (fun i => false) (by kernel_rfl) (by kernel_rfl) ⟨keepc' HC.out.1 (Below.refl _ _).drew, keepc' HC.out.2.1 (Below.refl _ _).drew, keepc' HC.out.2.2 (Below.refl _ _).drew⟩ (fun HT hS0 => ?_)
            refine tkD HT 0 91 (v := ?_) ?_ ?_
            rotate_left
            · (intro w5 hSw; obtain ⟨q1, q2, q3⟩ := hSw; go_simp; (try with_reducible rfl))
            try simp only [s1, s2, s3]
            refine tkS 1 (fun K5 hK => ?_)
            go_simp
            go_at_call 9
            refine (HCK.out _ (Below.refl _ _).drew).mono ?_
            rintro e w7 ⟨rfl, hb7⟩
            have HB7 := Lib.hid (grew_trans (Below.refl _ Y).drew hb7)
            clear hb7
            dsimp only
            refine hK.out _ _ (cel3_bel HC.out HB7.out) (fun hS1 => ?_)
            clear hK K5
            try simp only [Act.put, s1, s2, s3]
            refine tkD HT 2 93 (v := ?_) ?_ ?_
            rotate_left
            · (intro w5 hSw; obtain ⟨q1, q2, q3⟩ := hSw; go_simp; (try with_reducible rfl))
            try simp only [s1, s2, s3]
            refine tkD HT 3 94 (v := ?_) ?_ ?_
            rotate_left
            · (intro w5 hSw; obtain ⟨q1, q2, q3⟩ := hSw; go_simp; (try with_reducible rfl))
            try simp only [s1, s2, s3]
            refine tkD HT 4 95 (v := ?_) ?_ ?_
            rotate_left
            · (intro w5 hSw; obtain ⟨q1, q2, q3⟩ := hSw; go_simp; (try with_reducible rfl))
            try simp only [s1, s2, s3]
            refine tkD HT 6 97 (v := ?_) ?_ ?_
            rotate_left
            · (intro w5 hSw; obtain ⟨q1, q2, q3⟩ := hSw; go_simp; (try with_reducible rfl))
            try simp only [s1, s2, s3]
            refine tkD HT 7 98 (v := ?_) ?_ ?_
            rotate_left
            · (intro w5 hSw; obtain ⟨q1, q2, q3⟩ := hSw; go_simp; (try with_reducible rfl))
            try simp only [s1, s2, s3]
            refine tkS 5 (fun K5 hK => ?_)
            go_simp
            go_at_call 28
            refine (HLA.out _ HB7.out).mono ?_
            rintro e w6 ⟨rfl, rfl⟩
            dsimp only
            refine hK.out _ _ (cel3_bel HC.out HB7.out) (fun hS1 => ?_)
            clear hK K5
            try simp only [Act.put, s1, s2, s3]
            refine tkD HT 8 99 (v := ?_) ?_ ?_
            rotate_left
            · (intro w5 hSw; obtain ⟨q1, q2, q3⟩ := hSw; go_simp; (try with_reducible rfl))
            try simp only [s1, s2, s3]
            refine tkD HT 9 100 (v := ?_) ?_ ?_
            rotate_left
            · (intro w5 hSw; obtain ⟨q1, q2, q3⟩ := hSw; go_simp; (try with_reducible rfl))
            try simp only [s1, s2, s3]
            refine tkD HT 10 101 (v := ?_) ?_ ?_
            rotate_left
            · (intro w5 hSw; obtain ⟨q1, q2, q3⟩ := hSw; go_simp; (try with_reducible rfl))
            try simp only [s1, s2, s3]
            refine tkN HT 11 102 ?_
            try simp only [s1, s2, s3]
            refine tkN HT 12 103 ?_
            try simp only [s1, s2, s3]
            refine tkN HT 13 104 ?_
            try simp only [s1, s2, s3]
            refine tkN HT 14 105 ?_
            try simp only [s1, s2, s3]
            refine tkN HT 15 106 ?_
            try simp only [s1, s2, s3]
            refine tkN HT 16 107 ?_
            try simp only [s1, s2, s3]
            refine tkN HT 17 108 ?_
            try simp only [s1, s2, s3]
            refine tkD HT 18 109 (v := ?_) ?_ ?_
            rotate_left
            · (intro w5 hSw; obtain ⟨q1, q2, q3⟩ := hSw; go_simp; (try with_reducible rfl))
            try simp only [s1, s2, s3]
            refine tkD HT 19 110 (v := ?_) ?_ ?_
            rotate_left
            · (intro w5 hSw; obtain ⟨q1, q2, q3⟩ := hSw; go_simp; (try with_reducible rfl))
            try simp only [s1, s2, s3]
            refine tkN HT 20 111 ?_
            try simp only [s1, s2, s3]
            refine tkN HT 21 112 ?_
            try simp only [s1, s2, s3]
            refine tkN HT 22 113 ?_
            try simp only [s1, s2, s3]
            refine tkN HT 23 114 ?_
            try simp only [s1, s2, s3]
            refine tkN HT 24 115 ?_
            try simp only [s1, s2, s3]
            refine tkN HT 25 116 ?_
            try simp only [s1, s2, s3]
            refine tkN HT 26 117 ?_
            try simp only [s1, s2, s3]
            refine tkN HT 27 118 ?_
            try simp only [s1, s2, s3]
            refine tkN HT 28 119 ?_
            try simp only [s1, s2, s3]
            refine tkN HT 29 120 ?_
            try simp only [s1, s2, s3]
            refine tkN HT 30 121 ?_
            try simp only [s1, s2, s3]
            refine tkN HT 31 122 ?_
            try simp only [s1, s2, s3]
            refine tkS 32 (fun K5 hK => ?_)
            go_simp
            refine hK.out _ _ (cel3_bel HC.out HB7.out) (fun hS1 => ?_)
            clear hK K5
            try simp only [Act.put, s1, s2, s3]
            refine tkN HT 33 124 ?_
            try simp only [s1, s2, s3]
            refine tkD HT 34 125 (v := ?_) ?_ ?_
            rotate_left
            · (intro w5 hSw; obtain ⟨q1, q2, q3⟩ := hSw; go_simp; (try with_reducible rfl))
            try simp only [s1, s2, s3]
            refine wpAnyM_done (by kernel_rfl) (NoPanic.normal ?_)
            go_wp2
            go_meet
            exact ⟨by rw [HJO.out]; have h5 := HCN.out; simp [show ¬ lt ≤ m.term by omega], A6.out.below HB7.out, OwnE.bel HOW.out HB7.out, HJB.out.trans (HB7.out.mono HJB.out.size)⟩
          · by_cases hnj : (J.length : Int) < (n : Int)
            · skip
              have hb2 : decide (m.term < lt) = false := decide_eq_false ht2
              have hti2 : lt ≤ m.term := by omega
              have hnj0 : J.length < n := by omega
              have hb3 : decide (J.length < n) = true := decide_eq_true hnj0
              have HCN := Lib.hid hnj
              obtain ⟨Y, hY⟩ : ∃ Y, Y = w6 := ⟨_, rfl⟩
              subst hY
              refine wp_region_noPanic ?_
              refine wp_region_lim (Cel3 ⟨w.heap.size, 0, none⟩ (.pointer (some ⟨p, 0, none⟩)) ⟨w.heap.size + 1 + 1, 1, none⟩ (.int .u64 m.term) ⟨p, 4, none⟩ (.int .i64 (n : Int))) (fun i => decide (i < 35)) (fun i => false) (by kernel_rfl) (by kernel_rfl) ⟨keepc' HC.out.1 (Below.refl _ _).drew, keepc' HC.out.2.1 (Below.refl _ _).drew, keepc' HC.out.2.2 (Below.refl _ _).drew⟩ (fun HT hS0 => ?_)
              refine tkD HT 0 91 (v := ?_) ?_ ?_
              rotate_left
              · (intro w5 hSw; obtain ⟨q1, q2, q3⟩ := hSw; go_simp; (try with_reducible rfl))
              try simp only [s1, s2, s3]
              refine tkS 1 (fun K5 hK => ?_)
              go_simp
              go_at_call 9
              refine (HCK.out _ (Below.refl _ _).drew).mono ?_
              rintro e w7 ⟨rfl, hb7⟩
              have HB7 := Lib.hid (grew_trans (Below.refl _ Y).drew hb7)
              clear hb7
              dsimp only
              refine hK.out _ _ (cel3_bel HC.out HB7.out) (fun hS1 => ?_)
              clear hK K5
              try simp only [Act.put, s1, s2, s3]
              refine tkD HT 2 93 (v := ?_) ?_ ?_
              rotate_left
              · (intro w5 hSw; obtain ⟨q1, q2, q3⟩ := hSw; go_simp; (try with_reducible rfl))
              try simp only [s1, s2, s3]
              refine tkD HT 3 94 (v := ?_) ?_ ?_
              rotate_left
              · (intro w5 hSw; obtain ⟨q1, q2, q3⟩ := hSw; go_simp; (try with_reducible rfl))
              try simp only [s1, s2, s3]
              refine tkD HT 4 95 (v := ?_) ?_ ?_
              rotate_left
              · (intro w5 hSw; obtain ⟨q1, q2, q3⟩ := hSw; go_simp; (try with_reducible rfl))
              try simp only [s1, s2, s3]
              refine tkD HT 6 97 (v := ?_) ?_ ?_
              rotate_left
              · (intro w5 hSw; obtain ⟨q1, q2, q3⟩ := hSw; go_simp; (try with_reducible rfl))
              try simp only [s1, s2, s3]
              refine tkD HT 7 98 (v := ?_) ?_ ?_
              rotate_left
              · (intro w5 hSw; obtain ⟨q1, q2, q3⟩ := hSw; go_simp; (try with_reducible rfl))
              try simp only [s1, s2, s3]
              refine tkS 5 (fun K5 hK => ?_)
              go_simp
              go_at_call 28
              refine (HLA.out _ HB7.out).mono ?_
              rintro e w6 ⟨rfl, rfl⟩
              dsimp only
              refine hK.out _ _ (cel3_bel HC.out HB7.out) (fun hS1 => ?_)
              clear hK K5
              try simp only [Act.put, s1, s2, s3]
              refine tkD HT 8 99 (v := ?_) ?_ ?_
              rotate_left
              · (intro w5 hSw; obtain ⟨q1, q2, q3⟩ := hSw; go_simp; (try with_reducible rfl))
              try simp only [s1, s2, s3]
              refine tkD HT 9 100 (v := ?_) ?_ ?_
              rotate_left
              · (intro w5 hSw; obtain ⟨q1, q2, q3⟩ := hSw; go_simp; (try with_reducible rfl))
              try simp only [s1, s2, s3]
              refine tkD HT 10 101 (v := ?_) ?_ ?_
              rotate_left
              · (intro w5 hSw; obtain ⟨q1, q2, q3⟩ := hSw; go_simp; (try with_reducible rfl))
              try simp only [s1, s2, s3]
              refine tkD HT 11 102 (v := ?_) ?_ ?_
              rotate_left
              · (intro w5 hSw; obtain ⟨q1, q2, q3⟩ := hSw; go_simp; (try with_reducible rfl))
              try simp only [s1, s2, s3]
              refine tkD HT 12 103 (v := ?_) ?_ ?_
              rotate_left
              · (intro w5 hSw; obtain ⟨q1, q2, q3⟩ := hSw; go_simp; (try with_reducible rfl))
              try simp only [s1, s2, s3]
              refine tkD HT 13 104 (v := ?_) ?_ ?_
              rotate_left
              · (intro w5 hSw; obtain ⟨q1, q2, q3⟩ := hSw; go_simp; (try with_reducible rfl))
              try simp only [s1, s2, s3]
              refine tkD HT 14 105 (v := ?_) ?_ ?_
              rotate_left
              · (intro w5 hSw; obtain ⟨q1, q2, q3⟩ := hSw; go_simp; (try with_reducible rfl))
              try simp only [s1, s2, s3]
              refine tkD HT 15 106 (v := ?_) ?_ ?_
              rotate_left
              · (intro w5 hSw; obtain ⟨q1, q2, q3⟩ := hSw; go_simp; (try with_reducible rfl))
              try simp only [s1, s2, s3]
              refine tkD HT 16 107 (v := ?_) ?_ ?_
              rotate_left
              · (intro w5 hSw; obtain ⟨q1, q2, q3⟩ := hSw; go_simp; (try with_reducible rfl))
              try simp only [s1, s2, s3]
              refine tkD HT 17 108 (v := ?_) ?_ ?_
              rotate_left
              · (intro w5 hSw; obtain ⟨q1, q2, q3⟩ := hSw; go_simp; (try with_reducible rfl))
              try simp only [s1, s2, s3]
              refine tkD HT 18 109 (v := ?_) ?_ ?_
              rotate_left
              · (intro w5 hSw; obtain ⟨q1, q2, q3⟩ := hSw; go_simp; (try with_reducible rfl))
              try simp only [s1, s2, s3]
              refine tkD HT 19 110 (v := ?_) ?_ ?_
              rotate_left
              · (intro w5 hSw; obtain ⟨q1, q2, q3⟩ := hSw; go_simp; (try with_reducible rfl))
              try simp only [s1, s2, s3]
              refine tkN HT 20 111 ?_
              try simp only [s1, s2, s3]
              refine tkN HT 21 112 ?_
              try simp only [s1, s2, s3]
              refine tkN HT 22 113 ?_
              try simp only [s1, s2, s3]
              refine tkN HT 23 114 ?_
              try simp only [s1, s2, s3]
              refine tkN HT 24 115 ?_
              try simp only [s1, s2, s3]
              refine tkN HT 25 116 ?_
              try simp only [s1, s2, s3]
              refine tkN HT 26 117 ?_
              try simp only [s1, s2, s3]
              refine tkN HT 27 118 ?_
              try simp only [s1, s2, s3]
              refine tkN HT 28 119 ?_
              try simp only [s1, s2, s3]
              refine tkN HT 29 120 ?_
              try simp only [s1, s2, s3]
              refine tkN HT 30 121 ?_
              try simp only [s1, s2, s3]
              refine tkN HT 31 122 ?_
              try simp only [s1, s2, s3]
              refine tkS 32 (fun K5 hK => ?_)
              go_simp
              refine hK.out _ _ (cel3_bel HC.out HB7.out) (fun hS1 => ?_)
              clear hK K5
              try simp only [Act.put, s1, s2, s3]
              refine tkN HT 33 124 ?_
              try simp only [s1, s2, s3]
              refine tkD HT 34 125 (v := ?_) ?_ ?_
              rotate_left
              · (intro w5 hSw; obtain ⟨q1, q2, q3⟩ := hSw; go_simp; (try with_reducible rfl))
              try simp only [s1, s2, s3]
              refine wpAnyM_done (by kernel_rfl) (NoPanic.normal ?_)
              go_wp2
              go_meet
              exact ⟨by rw [HJO.out]; have h5 := HCN.out; have h6 := HN.out; simp [show ¬ d.commit ≤ (J.length : Int) by omega], A6.out.below HB7.out, OwnE.bel HOW.out HB7.out, HJB.out.trans (HB7.out.mono HJB.out.size)⟩
            · by_cases hsm : J.take n = d.log.take n
              · skip
                have hb2 : decide (m.term < lt) = false := decide_eq_false ht2
                have hti2 : lt ≤ m.term := by omega
                have hnj2 : n ≤ J.length := by omega
                have hb3 : decide (J.length < n) = false := decide_eq_false (by omega)
                have hnj3 : (n : Int) ≤ (J.length : Int) := by omega
                have hnjc : n ≤ jc := by omega
                have hnlc : n ≤ lc := by omega
                have HCN := Lib.hid hsm
                rw [show decide (J.take n = d.log.take n) = true from decide_eq_true hsm] at HSA
                clear hsm
                obtain ⟨Y, hY⟩ : ∃ Y, Y = w6 := ⟨_, rfl⟩
                subst hY
                refine wp_region_noPanic ?_
                refine wp_region_lim (Cel3 ⟨w.heap.size, 0, none⟩ (.pointer (some ⟨p, 0, none⟩)) ⟨w.heap.size + 1 + 1, 1, none⟩ (.int .u64 m.term) ⟨p, 4, none⟩ (.int .i64 (n : Int))) (fun i => decide (i < 35)) (fun i => false) (by kernel_rfl) (by kernel_rfl) ⟨keepc' HC.out.1 (Below.refl _ _).drew, keepc' HC.out.2.1 (Below.refl _ _).drew, keepc' HC.out.2.2 (Below.refl _ _).drew⟩ (fun HT hS0 => ?_)
                refine tkD HT 0 91 (v := ?_) ?_ ?_
                rotate_left
                · (intro w5 hSw; obtain ⟨q1, q2, q3⟩ := hSw; go_simp; (try with_reducible rfl))
                try simp only [s1, s2, s3]
                refine tkS 1 (fun K5 hK => ?_)
                go_simp
                go_at_call 9
                refine (HCK.out _ (Below.refl _ _).drew).mono ?_
                rintro e w7 ⟨rfl, hb7⟩
                have HB7 := Lib.hid (grew_trans (Below.refl _ Y).drew hb7)
                clear hb7
                dsimp only
                refine hK.out _ _ (cel3_bel HC.out HB7.out) (fun hS1 => ?_)
                clear hK K5
                try simp only [Act.put, s1, s2, s3]
                refine tkD HT 2 93 (v := ?_) ?_ ?_
                rotate_left
                · (intro w5 hSw; obtain ⟨q1, q2, q3⟩ := hSw; go_simp; (try with_reducible rfl))
                try simp only [s1, s2, s3]
                refine tkD HT 3 94 (v := ?_) ?_ ?_
                rotate_left
                · (intro w5 hSw; obtain ⟨q1, q2, q3⟩ := hSw; go_simp; (try with_reducible rfl))
                try simp only [s1, s2, s3]
                refine tkD HT 4 95 (v := ?_) ?_ ?_
                rotate_left
                · (intro w5 hSw; obtain ⟨q1, q2, q3⟩ := hSw; go_simp; (try with_reducible rfl))
                try simp only [s1, s2, s3]
                refine tkD HT 6 97 (v := ?_) ?_ ?_
                rotate_left
                · (intro w5 hSw; obtain ⟨q1, q2, q3⟩ := hSw; go_simp; (try with_reducible rfl))
                try simp only [s1, s2, s3]
                refine tkD HT 7 98 (v := ?_) ?_ ?_
                rotate_left
                · (intro w5 hSw; obtain ⟨q1, q2, q3⟩ := hSw; go_simp; (try with_reducible rfl))
                try simp only [s1, s2, s3]
                refine tkS 5 (fun K5 hK => ?_)
                go_simp
                go_at_call 28
                refine (HLA.out _ HB7.out).mono ?_
                rintro e w6 ⟨rfl, rfl⟩
                dsimp only
                refine hK.out _ _ (cel3_bel HC.out HB7.out) (fun hS1 => ?_)
                clear hK K5
                try simp only [Act.put, s1, s2, s3]
                refine tkD HT 8 99 (v := ?_) ?_ ?_
                rotate_left
                · (intro w5 hSw; obtain ⟨q1, q2, q3⟩ := hSw; go_simp; (try with_reducible rfl))
                try simp only [s1, s2, s3]
                refine tkD HT 9 100 (v := ?_) ?_ ?_
                rotate_left
                · (intro w5 hSw; obtain ⟨q1, q2, q3⟩ := hSw; go_simp; (try with_reducible rfl))
                try simp only [s1, s2, s3]
                refine tkD HT 10 101 (v := ?_) ?_ ?_
                rotate_left
                · (intro w5 hSw; obtain ⟨q1, q2, q3⟩ := hSw; go_simp; (try with_reducible rfl))
                try simp only [s1, s2, s3]
                refine tkD HT 11 102 (v := ?_) ?_ ?_
                rotate_left
                · (intro w5 hSw; obtain ⟨q1, q2, q3⟩ := hSw; go_simp; (try with_reducible rfl))
                try simp only [s1, s2, s3]
                refine tkD HT 12 103 (v := ?_) ?_ ?_
                rotate_left
                · (intro w5 hSw; obtain ⟨q1, q2, q3⟩ := hSw; go_simp; (try with_reducible rfl))
                try simp only [s1, s2, s3]
                refine tkD HT 13 104 (v := ?_) ?_ ?_
                rotate_left
                · (intro w5 hSw; obtain ⟨q1, q2, q3⟩ := hSw; go_simp; (try with_reducible rfl))
                try simp only [s1, s2, s3]
                refine tkD HT 14 105 (v := ?_) ?_ ?_
                rotate_left
                · (intro w5 hSw; obtain ⟨q1, q2, q3⟩ := hSw; go_simp; (try with_reducible rfl))
                try simp only [s1, s2, s3]
                refine tkD HT 15 106 (v := ?_) ?_ ?_
                rotate_left
                · (intro w5 hSw; obtain ⟨q1, q2, q3⟩ := hSw; go_simp; (try with_reducible rfl))
                try simp only [s1, s2, s3]
                refine tkD HT 16 107 (v := ?_) ?_ ?_
                rotate_left
                · (intro w5 hSw; obtain ⟨q1, q2, q3⟩ := hSw; go_simp; (try with_reducible rfl))
                try simp only [s1, s2, s3]
                refine tkD HT 17 108 (v := ?_) ?_ ?_
                rotate_left
                · (intro w5 hSw; obtain ⟨q1, q2, q3⟩ := hSw; go_simp; (try with_reducible rfl))
                try simp only [s1, s2, s3]
                refine tkD HT 18 109 (v := ?_) ?_ ?_
                rotate_left
                · (intro w5 hSw; obtain ⟨q1, q2, q3⟩ := hSw; go_simp; (try with_reducible rfl))
                try simp only [s1, s2, s3]
                refine tkD HT 19 110 (v := ?_) ?_ ?_
                rotate_left
                · (intro w5 hSw; obtain ⟨q1, q2, q3⟩ := hSw; go_simp; (try with_reducible rfl))
                try simp only [s1, s2, s3]
                refine tkD HT 20 111 (v := ?_) ?_ ?_
                rotate_left
                · (intro w5 hSw; obtain ⟨q1, q2, q3⟩ := hSw; go_simp; (try with_reducible rfl))
                try simp only [s1, s2, s3]
                refine tkD HT 21 112 (v := ?_) ?_ ?_
                rotate_left
                · (intro w5 hSw; obtain ⟨q1, q2, q3⟩ := hSw; go_simp; (try with_reducible rfl))
                try simp only [s1, s2, s3]
                refine tkD HT 22 113 (v := ?_) ?_ ?_
                rotate_left
                · (intro w5 hSw; obtain ⟨q1, q2, q3⟩ := hSw; go_simp; (try with_reducible rfl))
                try simp only [s1, s2, s3]
                refine tkD HT 23 114 (v := ?_) ?_ ?_
                rotate_left
                · (intro w5 hSw; obtain ⟨q1, q2, q3⟩ := hSw; go_simp; (try with_reducible rfl))
                try simp only [s1, s2, s3]
                refine tkD HT 24 115 (v := ?_) ?_ ?_
                rotate_left
                · (intro w5 hSw; obtain ⟨q1, q2, q3⟩ := hSw; go_simp; (try with_reducible rfl))
                try simp only [s1, s2, s3]
                refine tkD HT 25 116 (v := ?_) ?_ ?_
                rotate_left
                · (intro w5 hSw; obtain ⟨q1, q2, q3⟩ := hSw; go_simp; (try with_reducible rfl))
                try simp only [s1, s2, s3]
                refine tkD HT 26 117 (v := ?_) ?_ ?_
                rotate_left
                · (intro w5 hSw; obtain ⟨q1, q2, q3⟩ := hSw; go_simp; (try with_reducible rfl))
                try simp only [s1, s2, s3]
                refine tkD HT 27 118 (v := ?_) ?_ ?_
                rotate_left
                · (intro w5 hSw; obtain ⟨q1, q2, q3⟩ := hSw; go_simp; (try with_reducible rfl))
                try simp only [s1, s2, s3]
                refine tkD HT 28 119 (v := ?_) ?_ ?_
                rotate_left
                · (intro w5 hSw; obtain ⟨q1, q2, q3⟩ := hSw; go_simp; (try with_reducible rfl))
                try simp only [s1, s2, s3]
                refine tkD HT 29 120 (v := ?_) ?_ ?_
                rotate_left
                · (intro w5 hSw; obtain ⟨q1, q2, q3⟩ := hSw; go_simp; (try with_reducible rfl))
                try simp only [s1, s2, s3]
                refine tkD HT 30 121 (v := ?_) ?_ ?_
                rotate_left
                · (intro w5 hSw; obtain ⟨q1, q2, q3⟩ := hSw; go_simp; (try with_reducible rfl))
                try simp only [s1, s2, s3]
                refine tkD HT 31 122 (v := ?_) ?_ ?_
                rotate_left
                · (intro w5 hSw; obtain ⟨q1, q2, q3⟩ := hSw; go_simp; (try with_reducible rfl))
                try simp only [s1, s2, s3]
                refine tkS 32 (fun K5 hK => ?_)
                go_simp
                go_at_call 52
                refine (HSA.out _ HB7.out hnj2).mono ?_
                rintro e w9 ⟨rfl, q, hq⟩
                have HB9 := Lib.hid (show Below Y.heap.size Y w9 by rw [hq]; exact grew_trans HB7.out (below_drewN' _ _))
                clear hq
                dsimp only
                refine hK.out _ _ (cel3_bel HC.out HB9.out) (fun hS1 => ?_)
                clear hK K5
                try simp only [Act.put, s1, s2, s3]
                refine tkD HT 33 124 (v := ?_) ?_ ?_
                rotate_left
                · (intro w5 hSw; obtain ⟨q1, q2, q3⟩ := hSw; go_simp; (try with_reducible rfl))
                try simp only [s1, s2, s3]
                refine tkD HT 34 125 (v := ?_) ?_ ?_
                rotate_left
                · (intro w5 hSw; obtain ⟨q1, q2, q3⟩ := hSw; go_simp; (try with_reducible rfl))
                try simp only [s1, s2, s3]
                refine wpAnyM_done (by kernel_rfl) (NoPanic.normal ?_)
                go_wp2
                go_meet
                exact ⟨by rw [HJO.out]; have h5 := HCN.out; have h6 := HN.out; simp [show lt ≤ m.term by omega, show d.commit ≤ (J.length : Int) by omega, h5], A6.out.below HB9.out, OwnE.bel HOW.out HB9.out, HJB.out.trans (HB9.out.mono HJB.out.size)⟩
              · skip
                have hb2 : decide (m.term < lt) = false := decide_eq_false ht2
                have hti2 : lt ≤ m.term := by omega
                have hnj2 : n ≤ J.length := by omega
                have hb3 : decide (J.length < n) = false := decide_eq_false (by omega)
                have hnj3 : (n : Int) ≤ (J.length : Int) := by omega
                have hnjc : n ≤ jc := by omega
                have hnlc : n ≤ lc := by omega
                have HCN := Lib.hid hsm
                rw [show decide (J.take n = d.log.take n) = false from decide_eq_false hsm] at HSA
                clear hsm
                obtain ⟨Y, hY⟩ : ∃ Y, Y = w6 := ⟨_, rfl⟩
                subst hY
                refine wp_region_noPanic ?_
                refine wp_region_lim (Cel3 ⟨w.heap.size, 0, none⟩ (.pointer (some ⟨p, 0, none⟩)) ⟨w.heap.size + 1 + 1, 1, none⟩ (.int .u64 m.term) ⟨p, 4, none⟩ (.int .i64 (n : Int))) (fun i => decide (i < 35)) (fun i => false) (by kernel_rfl) (by kernel_rfl) ⟨keepc' HC.out.1 (Below.refl _ _).drew, keepc' HC.out.2.1 (Below.refl _ _).drew, keepc' HC.out.2.2 (Below.refl _ _).drew⟩ (fun HT hS0 => ?_)
                refine tkD HT 0 91 (v := ?_) ?_ ?_
                rotate_left
                · (intro w5 hSw; obtain ⟨q1, q2, q3⟩ := hSw; go_simp; (try with_reducible rfl))
                try simp only [s1, s2, s3]
                refine tkS 1 (fun K5 hK => ?_)
                go_simp
                go_at_call 9
                refine (HCK.out _ (Below.refl _ _).drew).mono ?_
                rintro e w7 ⟨rfl, hb7⟩
                have HB7 := Lib.hid (grew_trans (Below.refl _ Y).drew hb7)
                clear hb7
                dsimp only
                refine hK.out _ _ (cel3_bel HC.out HB7.out) (fun hS1 => ?_)
                clear hK K5
                try simp only [Act.put, s1, s2, s3]
                refine tkD HT 2 93 (v := ?_) ?_ ?_
                rotate_left
                · (intro w5 hSw; obtain ⟨q1, q2, q3⟩ := hSw; go_simp; (try with_reducible rfl))
                try simp only [s1, s2, s3]
                refine tkD HT 3 94 (v := ?_) ?_ ?_
                rotate_left
                · (intro w5 hSw; obtain ⟨q1, q2, q3⟩ := hSw; go_simp; (try with_reducible rfl))
                try simp only [s1, s2, s3]
                refine tkD HT 4 95 (v := ?_) ?_ ?_
                rotate_left
                · (intro w5 hSw; obtain ⟨q1, q2, q3⟩ := hSw; go_simp; (try with_reducible rfl))
                try simp only [s1, s2, s3]
                refine tkD HT 6 97 (v := ?_) ?_ ?_
                rotate_left
                · (intro w5 hSw; obtain ⟨q1, q2, q3⟩ := hSw; go_simp; (try with_reducible rfl))
                try simp only [s1, s2, s3]
                refine tkD HT 7 98 (v := ?_) ?_ ?_
                rotate_left
                · (intro w5 hSw; obtain ⟨q1, q2, q3⟩ := hSw; go_simp; (try with_reducible rfl))
                try simp only [s1, s2, s3]
                refine tkS 5 (fun K5 hK => ?_)
                go_simp
                go_at_call 28
                refine (HLA.out _ HB7.out).mono ?_
                rintro e w6 ⟨rfl, rfl⟩
                dsimp only
                refine hK.out _ _ (cel3_bel HC.out HB7.out) (fun hS1 => ?_)
                clear hK K5
                try simp only [Act.put, s1, s2, s3]
                refine tkD HT 8 99 (v := ?_) ?_ ?_
                rotate_left
                · (intro w5 hSw; obtain ⟨q1, q2, q3⟩ := hSw; go_simp; (try with_reducible rfl))
                try simp only [s1, s2, s3]
                refine tkD HT 9 100 (v := ?_) ?_ ?_
                rotate_left
                · (intro w5 hSw; obtain ⟨q1, q2, q3⟩ := hSw; go_simp; (try with_reducible rfl))
                try simp only [s1, s2, s3]
                refine tkD HT 10 101 (v := ?_) ?_ ?_
                rotate_left
                · (intro w5 hSw; obtain ⟨q1, q2, q3⟩ := hSw; go_simp; (try with_reducible rfl))
                try simp only [s1, s2, s3]
                refine tkD HT 11 102 (v := ?_) ?_ ?_
                rotate_left
                · (intro w5 hSw; obtain ⟨q1, q2, q3⟩ := hSw; go_simp; (try with_reducible rfl))
                try simp only [s1, s2, s3]
                refine tkD HT 12 103 (v := ?_) ?_ ?_
                rotate_left
                · (intro w5 hSw; obtain ⟨q1, q2, q3⟩ := hSw; go_simp; (try with_reducible rfl))
                try simp only [s1, s2, s3]
                refine tkD HT 13 104 (v := ?_) ?_ ?_
                rotate_left
                · (intro w5 hSw; obtain ⟨q1, q2, q3⟩ := hSw; go_simp; (try with_reducible rfl))
                try simp only [s1, s2, s3]
                refine tkD HT 14 105 (v := ?_) ?_ ?_
                rotate_left
                · (intro w5 hSw; obtain ⟨q1, q2, q3⟩ := hSw; go_simp; (try with_reducible rfl))
                try simp only [s1, s2, s3]
                refine tkD HT 15 106 (v := ?_) ?_ ?_
                rotate_left
                · (intro w5 hSw; obtain ⟨q1, q2, q3⟩ := hSw; go_simp; (try with_reducible rfl))
                try simp only [s1, s2, s3]
                refine tkD HT 16 107 (v := ?_) ?_ ?_
                rotate_left
                · (intro w5 hSw; obtain ⟨q1, q2, q3⟩ := hSw; go_simp; (try with_reducible rfl))
                try simp only [s1, s2, s3]
                refine tkD HT 17 108 (v := ?_) ?_ ?_
                rotate_left
                · (intro w5 hSw; obtain ⟨q1, q2, q3⟩ := hSw; go_simp; (try with_reducible rfl))
                try simp only [s1, s2, s3]
                refine tkD HT 18 109 (v := ?_) ?_ ?_
                rotate_left
                · (intro w5 hSw; obtain ⟨q1, q2, q3⟩ := hSw; go_simp; (try with_reducible rfl))
                try simp only [s1, s2, s3]
                refine tkD HT 19 110 (v := ?_) ?_ ?_
                rotate_left
                · (intro w5 hSw; obtain ⟨q1, q2, q3⟩ := hSw; go_simp; (try with_reducible rfl))
                try simp only [s1, s2, s3]
                refine tkD HT 20 111 (v := ?_) ?_ ?_
                rotate_left
                · (intro w5 hSw; obtain ⟨q1, q2, q3⟩ := hSw; go_simp; (try with_reducible rfl))
                try simp only [s1, s2, s3]
                refine tkD HT 21 112 (v := ?_) ?_ ?_
                rotate_left
                · (intro w5 hSw; obtain ⟨q1, q2, q3⟩ := hSw; go_simp; (try with_reducible rfl))
                try simp only [s1, s2, s3]
                refine tkD HT 22 113 (v := ?_) ?_ ?_
                rotate_left
                · (intro w5 hSw; obtain ⟨q1, q2, q3⟩ := hSw; go_simp; (try with_reducible rfl))
                try simp only [s1, s2, s3]
                refine tkD HT 23 114 (v := ?_) ?_ ?_
                rotate_left
                · (intro w5 hSw; obtain ⟨q1, q2, q3⟩ := hSw; go_simp; (try with_reducible rfl))
                try simp only [s1, s2, s3]
                refine tkD HT 24 115 (v := ?_) ?_ ?_
                rotate_left
                · (intro w5 hSw; obtain ⟨q1, q2, q3⟩ := hSw; go_simp; (try with_reducible rfl))
                try simp only [s1, s2, s3]
                refine tkD HT 25 116 (v := ?_) ?_ ?_
                rotate_left
                · (intro w5 hSw; obtain ⟨q1, q2, q3⟩ := hSw; go_simp; (try with_reducible rfl))
                try simp only [s1, s2, s3]
                refine tkD HT 26 117 (v := ?_) ?_ ?_
                rotate_left
                · (intro w5 hSw; obtain ⟨q1, q2, q3⟩ := hSw; go_simp; (try with_reducible rfl))
                try simp only [s1, s2, s3]
                refine tkD HT 27 118 (v := ?_) ?_ ?_
                rotate_left
                · (intro w5 hSw; obtain ⟨q1, q2, q3⟩ := hSw; go_simp; (try with_reducible rfl))
                try simp only [s1, s2, s3]
                refine tkD HT 28 119 (v := ?_) ?_ ?_
                rotate_left
                · (intro w5 hSw; obtain ⟨q1, q2, q3⟩ := hSw; go_simp; (try with_reducible rfl))
                try simp only [s1, s2, s3]
                refine tkD HT 29 120 (v := ?_) ?_ ?_
                rotate_left
                · (intro w5 hSw; obtain ⟨q1, q2, q3⟩ := hSw; go_simp; (try with_reducible rfl))
                try simp only [s1, s2, s3]
                refine tkD HT 30 121 (v := ?_) ?_ ?_
                rotate_left
                · (intro w5 hSw; obtain ⟨q1, q2, q3⟩ := hSw; go_simp; (try with_reducible rfl))
                try simp only [s1, s2, s3]
                refine tkD HT 31 122 (v := ?_) ?_ ?_
                rotate_left
                · (intro w5 hSw; obtain ⟨q1, q2, q3⟩ := hSw; go_simp; (try with_reducible rfl))
                try simp only [s1, s2, s3]
                refine tkS 32 (fun K5 hK => ?_)
                go_simp
                go_at_call 52
                refine (HSA.out _ HB7.out hnj2).mono ?_
                rintro e w9 ⟨rfl, q, hq⟩
                have HB9 := Lib.hid (show Below Y.heap.size Y w9 by rw [hq]; exact grew_trans HB7.out (below_drewN' _ _))
                clear hq
                dsimp only
                refine hK.out _ _ (cel3_bel HC.out HB9.out) (fun hS1 => ?_)
                clear hK K5
                try simp only [Act.put, s1, s2, s3]
                refine tkD HT 33 124 (v := ?_) ?_ ?_
                rotate_left
                · (intro w5 hSw; obtain ⟨q1, q2, q3⟩ := hSw; go_simp; (try with_reducible rfl))
                try simp only [s1, s2, s3]
                refine tkD HT 34 125 (v := ?_) ?_ ?_
                rotate_left
                · (intro w5 hSw; obtain ⟨q1, q2, q3⟩ := hSw; go_simp; (try with_reducible rfl))
                try simp only [s1, s2, s3]
                refine wpAnyM_done (by kernel_rfl) (NoPanic.normal ?_)
                go_wp2
                go_meet
                exact ⟨by rw [HJO.out]; simp [HCN.out], A6.out.below HB9.out, OwnE.bel HOW.out HB9.out, HJB.out.trans (HB9.out.mono HJB.out.size)⟩
        · skip
          have hb1 : (ck != 0) = true := by simp [hc]
          have HCN := Lib.hid hc
          clear hc
          obtain ⟨Y, hY⟩ : ∃ Y, Y = w6 := ⟨_, rfl⟩
          subst hY
          refine wp_region_noPanic ?_
          refine wp_region_lim (Cel3 ⟨w.heap.size, 0, none⟩ (.pointer (some ⟨p, 0, none⟩)) ⟨w.heap.size + 1 + 1, 1, none⟩ (.int .u64 m.term) ⟨p, 4, none⟩ (.int .i64 (n : Int))) (fun i => decide (i < 35)) (fun i => false) (by kernel_rfl) (by kernel_rfl) ⟨keepc' HC.out.1 (Below.refl _ _).drew, keepc' HC.out.2.1 (Below.refl _ _).drew, keepc' HC.out.2.2 (Below.refl _ _).drew⟩ (fun HT hS0 => ?_)
          refine tkD HT 0 91 (v := ?_) ?_ ?_
          rotate_left
          · (intro w5 hSw; obtain ⟨q1, q2, q3⟩ := hSw; go_simp; (try with_reducible rfl))
          try simp only [s1, s2, s3]
          refine tkS 1 (fun K5 hK => ?_)
          go_simp
          go_at_call 9
          refine (HCK.out _ (Below.refl _ _).drew).mono ?_
          rintro e w7 ⟨rfl, hb7⟩
          have HB7 := Lib.hid (grew_trans (Below.refl _ Y).drew hb7)
          clear hb7
          dsimp only
          refine hK.out _ _ (cel3_bel HC.out HB7.out) (fun hS1 => ?_)
          clear hK K5
          try simp only [Act.put, s1, s2, s3]
          refine tkD HT 2 93 (v := ?_) ?_ ?_
          rotate_left
          · (intro w5 hSw; obtain ⟨q1, q2, q3⟩ := hSw; go_simp; (try with_reducible rfl))
          try simp only [s1, s2, s3]
          refine tkD HT 3 94 (v := ?_) ?_ ?_
          rotate_left
          · (intro w5 hSw; obtain ⟨q1, q2, q3⟩ := hSw; go_simp; (try with_reducible rfl))
          try simp only [s1, s2, s3]
          refine tkN HT 4 95 ?_
          try simp only [s1, s2, s3]
          refine tkN HT 6 97 ?_
          try simp only [s1, s2, s3]
          refine tkN HT 7 98 ?_
          try simp only [s1, s2, s3]
          refine tkS 5 (fun K5 hK => ?_)
          go_simp
          refine hK.out _ _ (cel3_bel HC.out HB7.out) (fun hS1 => ?_)
          clear hK K5
          try simp only [Act.put, s1, s2, s3]
          refine tkN HT 8 99 ?_
          try simp only [s1, s2, s3]
          refine tkD HT 9 100 (v := ?_) ?_ ?_
          rotate_left
          · (intro w5 hSw; obtain ⟨q1, q2, q3⟩ := hSw; go_simp; (try with_reducible rfl))
          try simp only [s1, s2, s3]
          refine tkD HT 10 101 (v := ?_) ?_ ?_
          rotate_left
          · (intro w5 hSw; obtain ⟨q1, q2, q3⟩ := hSw; go_simp; (try with_reducible rfl))
          try simp only [s1, s2, s3]
          refine tkN HT 11 102 ?_
          try simp only [s1, s2, s3]
          refine tkN HT 12 103 ?_
          try simp only [s1, s2, s3]
          refine tkN HT 13 104 ?_
          try simp only [s1, s2, s3]
          refine tkN HT 14 105 ?_
          try simp only [s1, s2, s3]
          refine tkN HT 15 106 ?_
          try simp only [s1, s2, s3]
          refine tkN HT 16 107 ?_
          try simp only [s1, s2, s3]
          refine tkN HT 17 108 ?_
          try simp only [s1, s2, s3]
          refine tkD HT 18 109 (v := ?_) ?_ ?_
          rotate_left
          · (intro w5 hSw; obtain ⟨q1, q2, q3⟩ := hSw; go_simp; (try with_reducible rfl))
          try simp only [s1, s2, s3]
          refine tkD HT 19 110 (v := ?_) ?_ ?_
          rotate_left
          · (intro w5 hSw; obtain ⟨q1, q2, q3⟩ := hSw; go_simp; (try with_reducible rfl))
          try simp only [s1, s2, s3]
          refine tkN HT 20 111 ?_
          try simp only [s1, s2, s3]
          refine tkN HT 21 112 ?_
          try simp only [s1, s2, s3]
          refine tkN HT 22 113 ?_
          try simp only [s1, s2, s3]
          refine tkN HT 23 114 ?_
          try simp only [s1, s2, s3]
          refine tkN HT 24 115 ?_
          try simp only [s1, s2, s3]
          refine tkN HT 25 116 ?_
          try simp only [s1, s2, s3]
          refine tkN HT 26 117 ?_
          try simp only [s1, s2, s3]
          refine tkN HT 27 118 ?_
          try simp only [s1, s2, s3]
          refine tkN HT 28 119 ?_
          try simp only [s1, s2, s3]
          refine tkN HT 29 120 ?_
          try simp only [s1, s2, s3]
          refine tkN HT 30 121 ?_
          try simp only [s1, s2, s3]
          refine tkN HT 31 122 ?_
          try simp only [s1, s2, s3]
          refine tkS 32 (fun K5 hK => ?_)
          go_simp
          refine hK.out _ _ (cel3_bel HC.out HB7.out) (fun hS1 => ?_)
          clear hK K5
          try simp only [Act.put, s1, s2, s3]
          refine tkN HT 33 124 ?_
          try simp only [s1, s2, s3]
          refine tkD HT 34 125 (v := ?_) ?_ ?_
          rotate_left
          · (intro w5 hSw; obtain ⟨q1, q2, q3⟩ := hSw; go_simp; (try with_reducible rfl))
          try simp only [s1, s2, s3]
          refine wpAnyM_done (by kernel_rfl) (NoPanic.normal ?_)
          go_wp2
          go_meet
          exact ⟨by rw [HJO.out]; simp [HCN.out], A6.out.below HB7.out, OwnE.bel HOW.out HB7.out, HJB.out.trans (HB7.out.mono HJB.out.size)⟩
      case rest =>
        obtain ⟨hc1, hR⟩ := hcut
        subst hc1
        have R8 := Lib.hid hR
        clear hR A6 HJS HOW HJN HFI HJW HME
        cases hjo : d.joinOk m with
        | false =>
          have HT3 := Lib.hid (HT2.out.trans (if_pos hjo))
          clear hjo
          go_wp2
          go_end0
          rw [HT3.out]
          exact ⟨rfl, CUpd.below HW.out (CUpd.then (R8.out.1.mod.mono (fun _ _ e => Or.inl e)) (fun _ hk => .inl hk) (R8.out.1.cat.stay (Below.refl _ _)))⟩
        | true =>
          have HT3 := Lib.hid (HT2.out.trans (if_neg (by rw [hjo]; simp)))
          clear hjo HJO
          have x0 := (cell_of R8.out.1.b0 0 (v := .pointer (some ⟨p, 0, none⟩)) rfl).1
          have x2 := (cell_of R8.out.1.b2 2 (v := .int .i64 m.prev) rfl).1
          have x4 := (cell_of R8.out.1.b2 4 (v := .slice ea m.ents.length ec) rfl).1
          obtain ⟨z3, z3f⟩ := cell_of R8.out.1.cat.blk 3 (v := .slice la d.log.length lc) rfl
          have hwn : IntKind.i64.wrap (m.prev + (m.ents.length : Int)) = m.prev + (m.ents.length : Int) := IntWalk.i64_in _ (by omega)
          have hne0 : w.heap.size ≠ p := R8.out.1.ne.1
          have hne2 : w.heap.size + 1 + 1 ≠ p := R8.out.1.ne.2.2
          go_upto_region 15 with fail
          clear hwn hne0 hne2
          have A9 := Lib.hid (TakW.relog R8.out.1 A5.out.cat R8.out.2.2 R8.out.2.1)
          have HLT := Lib.hid (World.ownsRow.lt R8.out.2.1)
          clear x0 x2 x4 z3 z3f R8
          generalize wc.setCell ⟨p, 3, none⟩ (.slice ja J.length jc) = w9 at *
          obtain ⟨nn, hnn⟩ : ∃ nn, nn = m.prev + (m.ents.length : Int) := ⟨_, rfl⟩
          rw [← hnn] at HT3
          rw [← hnn]
          obtain ⟨a, ha⟩ : ∃ a, a = min m.commit nn := ⟨_, rfl⟩
          obtain ⟨k, hk⟩ : ∃ k, k = max d.commit a := ⟨_, rfl⟩
          rw [← ha, ← hk] at HT3
          have iA : (if nn < m.commit then nn else m.commit) = a := by rw [ha]; split <;> omega
          have iK : (if d.commit < a then a else d.commit) = k := by rw [hk]; split <;> omega
          have HC := Lib.hid (show Cel3 ⟨w.heap.size, 0, none⟩ (.pointer (some ⟨p, 0, none⟩)) ⟨w.heap.size + 1 + 1, 5, none⟩ (.int .i64 m.commit) ⟨p, 4, none⟩ (.int .i64 d.commit) w9 from ⟨(cell_of A9.out.b0 0 rfl).1, (cell_of A9.out.b2 5 rfl).1, (cell_of A9.out.cat.blk 4 rfl).1⟩)
          obtain ⟨k1, k1f⟩ := cell_of A9.out.cat.blk 4 (v := .int .i64 d.commit) rfl
          clear ha hk hnn
          obtain ⟨Y, hY⟩ : ∃ Y, Y = w9 := ⟨_, rfl⟩
          subst hY
          refine wp_region_noPanic ?_
          refine wp_region_lim (Cel3 ⟨w.heap.size, 0, none⟩ (.pointer (some ⟨p, 0, none⟩)) ⟨w.heap.size + 1 + 1, 5, none⟩ (.int .i64 m.commit) ⟨p, 4, none⟩ (.int .i64 d.commit)) (fun i => decide (i < 12)) (fun i => false) (by kernel_rfl) (by kernel_rfl) (cel3_bel HC.out (Below.refl _ _).drew) (fun HT hS0 => ?_)
          refine tkD HT 0 137 (v := ?_) ?_ ?_
          rotate_left
          · (intro w5 hSw; obtain ⟨q1, q2, q3⟩ := hSw; go_simp; (try with_reducible rfl))
          try simp only [s1, s2, s3]
          refine tkD HT 1 138 (v := ?_) ?_ ?_
          rotate_left
          · (intro w5 hSw; obtain ⟨q1, q2, q3⟩ := hSw; go_simp; (try with_reducible rfl))
          try simp only [s1, s2, s3]
          refine tkD HT 2 139 (v := ?_) ?_ ?_
          rotate_left
          · (intro w5 hSw; obtain ⟨q1, q2, q3⟩ := hSw; go_simp; (try with_reducible rfl))
          try simp only [s1, s2, s3]
          refine tkD HT 3 140 (v := ?_) ?_ ?_
          rotate_left
          · (intro w5 hSw; obtain ⟨q1, q2, q3⟩ := hSw; go_simp; (try with_reducible rfl))
          try simp only [s1, s2, s3]
          refine tkD HT 4 141 (v := ?_) ?_ ?_
          rotate_left
          · (intro w5 hSw; obtain ⟨q1, q2, q3⟩ := hSw; go_simp; (try with_reducible rfl))
          try simp only [s1, s2, s3]
          refine tkD HT 5 142 (v := ?_) ?_ ?_
          rotate_left
          · (intro w5 hSw; obtain ⟨q1, q2, q3⟩ := hSw; go_simp; (try with_reducible rfl))
          try simp only [s1, s2, s3]
          refine tkD HT 6 143 (v := ?_) ?_ ?_
          rotate_left
          · (intro w5 hSw; obtain ⟨q1, q2, q3⟩ := hSw; go_simp; (try with_reducible rfl))
          try simp only [s1, s2, s3]
          refine tkD HT 7 144 (v := ?_) ?_ ?_
          rotate_left
          · (intro w5 hSw; obtain ⟨q1, q2, q3⟩ := hSw; go_simp; (try with_reducible rfl))
          try simp only [s1, s2, s3]
          refine tkD HT 8 145 (v := ?_) ?_ ?_
          rotate_left
          · (intro w5 hSw; obtain ⟨q1, q2, q3⟩ := hSw; go_simp; (try with_reducible rfl))
          try simp only [s1, s2, s3]
          refine tkD HT 9 146 (v := ?_) ?_ ?_
          rotate_left
          · (intro w5 hSw; obtain ⟨q1, q2, q3⟩ := hSw; go_simp; (try with_reducible rfl))
          try simp only [s1, s2, s3]
          refine tkD HT 10 147 (v := ?_) ?_ ?_
          rotate_left
          · (intro w5 hSw; obtain ⟨q1, q2, q3⟩ := hSw; go_simp; (try with_reducible rfl))
          try simp only [s1, s2, s3]
          refine tkD HT 11 148 (v := ?_) ?_ ?_
          rotate_left
          · (intro w5 hSw; obtain ⟨q1, q2, q3⟩ := hSw; go_simp; (try with_reducible rfl))
          try simp only [s1, s2, s3]
          refine tkL 12 (fun K5 hK => ?_)
          go_simp
          refine hK.out _ _ ?_
          clear hK K5
          try simp only [Act.put, s1, s2, s3]
          refine wpAnyM_done (by kernel_rfl) (NoPanic.normal ?_)
          have A10 := Lib.hid (show TakW (((w.alloc (.cells #[.pointer (some ⟨p, 0, none⟩)] 31)).alloc (.cells #[.int .i64 f] 3)).alloc (.cells (mArr m ea m.ents.length ec r) 46)) w.heap.size base p (.slice ja J.length jc) ov tv os f (mArr m ea m.ents.length ec r) ({ d with log := J, commit := k } : Co) (World.drew (Y.setCell ⟨p, 4, none⟩ (.int .i64 k))) from (A9.out.put (c' := { d with log := J, commit := k }) (w' := Y.setCell ⟨p, 4, none⟩ (.int .i64 k)) (by rw [setCell_blk A9.out.cat.blk]; rfl) (Mod.cellOf p 4 _) rfl rfl rfl).below (Below.refl _ _).drew)
          clear k1 k1f iA iK
          generalize World.drew (Y.setCell ⟨p, 4, none⟩ (.int .i64 k)) = wZ at *
          have HBK := Lib.hid (back_any m ea m.ents.length ec r f nn true w.heap.size A10.out DO.out.1 DO.out.2)
          go_wp2_with (go_at_call 64; refine HBK.out.mono ?_; rintro e w6 ⟨rfl, hU⟩)
          go_end0
          rw [HT3.out]
          exact ⟨rfl, CUpd.below HW.out (CUpd.then (A10.out.mod.mono (fun _ _ e => Or.inl e)) (take_fr (fun g hg => by have := (HLT.out g hg).1; have := A5.out.mod.size; omega)) hU)⟩
end Go.Proofs.Ytcleaamjfjnkkaa
