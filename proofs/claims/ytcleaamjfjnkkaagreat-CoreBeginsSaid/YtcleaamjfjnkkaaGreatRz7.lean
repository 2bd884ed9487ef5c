/- CoreBegins. -/
import Derived.Test.YtcleaamjfjnkkaaGreatRz6
import Derived.Test.YtcleaamjfjnkkaaGreatCl0
namespace Go.Proofs.YtcleaamjfjnkkaaGreat
open Go.RowKit Go.Joins

theorem tick_far (c : Co) (a b : Int) (h : c.me = 0 ∨ c.me = 1 ∨ c.me = 2) (hr : c.role ≠ 2) : (c.tick a b).role ≠ 2 ∧ (c.tick a b).dest.length ≤ 3 ∧ (c.tick a b).gh = c.gh ∧ ∀ m ∈ (c.tick a b).out, m.ents = [] := by
  unfold Co.tick
  simp only
  rw [if_neg (show ¬ (c.begin a).role = 2 from hr)]
  split
  · obtain ⟨h1, h2, -, -⟩ := camp_is (c.begin a) b h rfl rfl
    refine ⟨?_, by rw [h2]; exact othL_len _ 3, ?_, fun m hm => ?_⟩
    · have e : ((c.begin a).campaign b).role = 1 := by
        unfold Co.campaign Co.others Co.one Co.campOne
        obtain h0 | h0 | h0 := h
        all_goals simp [Co.setPr, Co.send, Co.begin, h0]
      rw [e]; omega
    · unfold Co.campaign Co.others Co.one Co.campOne
      obtain h0 | h0 | h0 := h
      all_goals simp [Co.setPr, Co.send, Co.begin, h0]
    · rw [h1] at hm
      simp at hm
      subst hm
      rfl
  · exact ⟨hr, Nat.zero_le _, rfl, fun m hm => by cases hm⟩
theorem CAt.far {w w' : World} {base p : Nat} {lv ov tv : Value} {os : List RM} {c : Co} {S : Nat → Prop} (h : CAt w base p lv ov tv os c) (hm : Mod S w w') (hp : ¬ S p) (hl : ∀ g, lv.ownBlock = some g → ¬ S g) (ho : ∀ g, ov.ownBlock = some g → ¬ S g) (ht : ∀ g, tv.ownBlock = some g → ¬ S g) (he : ∀ x ∈ os, ∀ b off, x.ea = some ⟨b, off, none⟩ → ¬ S b) : CAt w' base p lv ov tv os c :=
  { h.toCL.mod hm hp hl with
    out := hm.own h.out ho
    dst := hm.own h.dst ht
    eq := h.eq
    ents := fun x hx => ⟨(h.ents x hx).1.mod hm (he x hx), fun b off e => ⟨Nat.lt_of_lt_of_le ((h.ents x hx).2 b off e).1 hm.size, ((h.ents x hx).2 b off e).2⟩⟩ }
/-- both voters side by side. -/
structure Duo (w : World) (bC bR p q : Nat) (lv ov tv lr ovr tvr : Value) (vt : Nat → Bool) (c : Co) : Prop where
  cl : CL w bC p lv ov tv c
  rl : RL w bR q lr ovr tvr vt c
  ap : ∀ g, lv.ownBlock = some g → lr.ownBlock ≠ some g
section
variable {w w1 w2 : World} {bC bR p q : Nat} {lv ov tv lr ovr tvr lv1 ov1 tv1 : Value} {vt : Nat → Bool} {c c' : Co} {os : List RM}
theorem Duo.qp (h : Duo w bC bR p q lv ov tv lr ovr tvr vt c) : q ≠ p := by
  intro e
  have h1 := h.rl.blk
  rw [e, h.cl.blk] at h1
  simp at h1
theorem Duo.no (h : Duo w bC bR p q lv ov tv lr ovr tvr vt c) : (¬ CF p lv NIL NIL q) ∧ ∀ g, lr.ownBlock = some g → ¬ CF p lv NIL NIL g := by
  refine ⟨?_, fun g hg => ?_⟩
  · rintro (e | e | e | e)
    · exact h.qp e
    · exact ownR_not h.cl.log h.rl.blk (fun cs e => by simp at e) e
    · cases e
    · cases e
  · rintro (e | e | e | e)
    · subst e; exact ownR_not h.rl.log h.cl.blk (fun cs e => by simp at e) hg
    · exact h.ap g e hg
    · cases e
    · cases e
theorem Duo.start {w w2 : World} {p q bC : Nat} {lv lr : Value} {c : Co} (h : CL w bC p lv NIL NIL c) (hb : Below w.heap.size w w2) (hr : RL w2 w.heap.size q lr NIL NIL vt c) : Duo w2 bC w.heap.size p q lv NIL NIL lr NIL NIL vt c :=
  ⟨h.below hb, hr, fun g hg e => by have := (h.lt.2 g hg).2; have := (hr.lt.2 g e).1; omega⟩
/-- the voter did something: the document's stays; and then the other way. -/
theorem Duo.first (h : Duo w bC bR p q lv ov tv lr ovr tvr vt c) (hC : CAt w1 bC p lv1 ov1 tv1 os (c'.wg w.heap.size)) (hM : Mod (CF p lv NIL NIL) w w1) (hF : ∀ k, CF p lv1 ov1 tv1 k → CF p lv NIL NIL k ∨ w.heap.size ≤ k) (hgh : c'.gh = 0) :
    RL w1 bR q lr ovr tvr vt c ∧ (∀ g, lv1.ownBlock = some g → lr.ownBlock ≠ some g) ∧ ∀ {w2 : World}, Mod (RF q lr NIL NIL) w1 w2 → CAt w2 bC p lv1 ov1 tv1 os c' := by
  obtain ⟨n1, n2⟩ := h.no
  have hrl := h.rl.mod hM n1 n2
  have ap : ∀ g, lv1.ownBlock = some g → lr.ownBlock ≠ some g := fun g hg e => by
    rcases hF g (.inr (.inl hg)) with d | d
    · exact n2 g e d
    · have := (h.rl.lt.2 g e).2; omega
  refine ⟨hrl, ap, fun {w2} hm => ?_⟩
  have hC2 : CAt w2 bC p lv1 ov1 tv1 os (c'.wg w.heap.size) := by
    refine hC.far hm ?_ (fun g hg => ?_) (fun g hg => ?_) (fun g hg => ?_) (fun x hx b off e => ?_)
    · rintro (e | e | e | e)
      · have h1 := hrl.blk
        rw [← e, hC.blk] at h1
        simp at h1
      · exact ownR_not hrl.log hC.blk (fun cs e => by simp at e) e
      · cases e
      · cases e
    · rintro (e | e | e | e)
      · subst e; exact ownR_not hC.log hrl.blk (fun cs e => by simp at e) hg
      · exact ap g hg e
      · cases e
      · cases e
    · rintro (e | e | e | e)
      · subst e; exact ownR_not hC.out hrl.blk (fun cs e => by simp at e) hg
      · obtain ⟨_, cur, hc⟩ := hC.out.block hg
        exact ownR_not hrl.log hc (fun cs e => by simp at e) e
      · cases e
      · cases e
    · rintro (e | e | e | e)
      · subst e; exact ownR_not hC.dst hrl.blk (fun cs e => by simp at e) hg
      · obtain ⟨_, cur, hc⟩ := hC.dst.block hg
        exact ownR_not hrl.log hc (fun cs e => by simp at e) e
      · cases e
      · cases e
    · have hb : w.heap.size ≤ b := by
        have := ((hC.ents x hx).2 b off e).2
        rcases Nat.lt_or_ge b w.heap.size with hlt | hge
        · exact absurd (.inr hlt) this
        · exact hge
      rintro (e | e | e | e)
      · have := h.rl.lt.1; omega
      · have := (h.rl.lt.2 b e).2; omega
      · cases e
      · cases e
  exact { blk := hC2.blk, bp := hC2.bp, log := hC2.log, ghl := by rw [hgh]; exact Nat.zero_le _, out := hC2.out, dst := hC2.dst, eq := hC2.eq, ents := fun x hx => ⟨(hC2.ents x hx).1, fun b off e => ⟨((hC2.ents x hx).2 b off e).1, fun hs => ((hC2.ents x hx).2 b off e).2 (hs.elim .inl (fun hk => by rw [hgh] at hk; exact absurd hk (Nat.not_lt_zero _)))⟩⟩ }
end
theorem wrap_in (n : Int) : I64 (wrap64 n) := by unfold I64 wrap64; omega
theorem ok_wg {c : Co} (k : Ok c) (n : Nat) : Ok (c.wg n) := ⟨k.me, k.term, k.voted, k.log, k.wf, k.commit, k.heard, k.since, k.now, k.timeout, k.pr, k.led⟩
theorem CL.wg {w : World} {base p : Nat} {lv ov tv : Value} {c : Co} (h : CL w base p lv ov tv c) : CL w base p lv ov tv (c.wg w.heap.size) := ⟨h.blk, h.bp, h.log, Nat.le_refl _⟩
theorem tick_me (c : Co) (a b : Int) (h : c.me = 0 ∨ c.me = 1 ∨ c.me = 2) (hr : c.role ≠ 2) : (c.tick a b).me = c.me := by
  unfold Co.tick
  simp only
  rw [if_neg (show ¬ (c.begin a).role = 2 from hr)]
  split
  · unfold Co.campaign Co.others Co.one Co.campOne
    obtain h0 | h0 | h0 := h
    all_goals simp [Co.setPr, Co.send, Co.begin, h0]
  · rfl
theorem tick_few (c : Co) (a b : Int) (h : c.me = 0 ∨ c.me = 1 ∨ c.me = 2) (hr : c.role ≠ 2) : (c.tick a b).out.length ≤ 1000 := by
  unfold Co.tick
  simp only
  rw [if_neg (show ¬ (c.begin a).role = 2 from hr)]
  split
  · rw [(camp_is (c.begin a) b h rfl rfl).1]; simp
  · exact Nat.zero_le _
theorem take320 (n : Nat) : ∃ m, m = min n 320 ∧ (if (320 : Int) < (n : Int) then (320 : Int) else (n : Int)) = (m : Int) := ⟨min n 320, rfl, by split <;> omega⟩
set_option linter.unusedSimpArgs false in
set_option linter.unusedVariables false in
set_option maxHeartbeats 8000000 in
set_option maxRecDepth 100000 in
theorem lawBegins (me t v x0 x1 x2 : Int) (a : Option Addr) (n cap : Nat) (es : List Ent) (W : World) (hn : es.length = n) (hin : InE W a cap es) (ht : 0 ≤ t ∧ t ≤ 18446744073709551615) (h0 : I64 x0) (h1 : I64 x1) (h2 : I64 x2) :
    Calls Tryz.prog 3 #[.int .i64 me, .agg #[.int .u64 t, .int .i64 v, .slice a n cap], .agg #[.int .i64 x0, .int .i64 x1, .int .i64 x2]] W (RetB true W) := by
  have mixed : Tryz.prog.follows .mixedOrders = true := by kernel_rfl
  obtain ⟨m, hm, hif⟩ := take320 n
  obtain ⟨fs, hfs⟩ : ∃ fs, fs = es.take 320 := ⟨_, rfl⟩
  have hfl : fs.length = m := by rw [hfs, hm, ← hn]; simp; omega
  have hwf : ∀ e ∈ fs, wfH e := fun e he => hin.wf e (List.mem_of_mem_take (hfs ▸ he))
  have HFS := Lib.hid (And.intro hfl (And.intro hwf (show Ents W a fs from hfs ▸ ents_take hin.ents 320)))
  have HM := Lib.hid (show m ≤ 320 by omega)
  have hmn : (m : Int) ≤ (n : Int) := by omega
  have hcap : (n : Int) ≤ (cap : Int) := by have := hin.len; omega
  have hcm : (cap : Int) ≤ 9223372036854775807 := by have h6 := hin.capm; unfold maxLen at h6; omega
  have HN0 := Lib.hid hin.nil0
  have HIN := Lib.hid (And.intro ht (And.intro h0 (And.intro h1 h2)))
  have HB3 := Lib.hid (show Below W.heap.size W (((W.alloc (.cells #[.int .u64 t, .int .i64 v, .slice a n cap] 25)).alloc (.cells #[.int .i64 x0, .int .i64 x1, .int .i64 x2] 26)).alloc (.cells #[] 83)) from (bel1 W _).trans (((bel1 _ _).trans ((bel1 _ _).mono (by simp))).mono (by simp)))
  have HBH := Lib.hid (show (((W.alloc (.cells #[.int .u64 t, .int .i64 v, .slice a n cap] 25)).alloc (.cells #[.int .i64 x0, .int .i64 x1, .int .i64 x2] 26)).alloc (.cells #[] 83)).heap[W.heap.size]? = some (.cells #[.int .u64 t, .int .i64 v, .slice a n cap] 25) from blk_below (blk_below (heap_alloc_new W (.cells #[.int .u64 t, .int .i64 v, .slice a n cap] 25)) (bel1 _ (.cells #[.int .i64 x0, .int .i64 x1, .int .i64 x2] 26))) (bel1 _ (.cells #[] 83)))
  have HBT := Lib.hid (show (((W.alloc (.cells #[.int .u64 t, .int .i64 v, .slice a n cap] 25)).alloc (.cells #[.int .i64 x0, .int .i64 x1, .int .i64 x2] 26)).alloc (.cells #[] 83)).heap[W.heap.size + 1]? = some (.cells #[.int .i64 x0, .int .i64 x1, .int .i64 x2] 26) from blk_below (heap_alloc2_new W (.cells #[.int .u64 t, .int .i64 v, .slice a n cap] 25) (.cells #[.int .i64 x0, .int .i64 x1, .int .i64 x2] 26)) (bel1 _ (.cells #[] 83)))
  have HSZ := Lib.hid (show ((W.alloc (.cells #[.int .u64 t, .int .i64 v, .slice a n cap] 25)).alloc (.cells #[.int .i64 x0, .int .i64 x1, .int .i64 x2] 26)).heap.size = W.heap.size + 2 by simp)
  have hown0 := Lib.hid (show OwnE (((W.alloc (.cells #[.int .u64 t, .int .i64 v, .slice a n cap] 25)).alloc (.cells #[.int .i64 x0, .int .i64 x1, .int .i64 x2] 26)).alloc (.cells #[] 83)) ((W.alloc (.cells #[.int .u64 t, .int .i64 v, .slice a n cap] 25)).alloc (.cells #[.int .i64 x0, .int .i64 x1, .int .i64 x2] 26)).heap.size (.slice (some ⟨((W.alloc (.cells #[.int .u64 t, .int .i64 v, .slice a n cap] 25)).alloc (.cells #[.int .i64 x0, .int .i64 x1, .int .i64 x2] 26)).heap.size, 0, none⟩) 0 0) [] from World.ownsRow_made ((W.alloc (.cells #[.int .u64 t, .int .i64 v, .slice a n cap] 25)).alloc (.cells #[.int .i64 x0, .int .i64 x1, .int .i64 x2] 26)) #[] 0 (Nat.le_refl _) (Nat.zero_le _) rfl)
  have HEN := Lib.hid (ents_below HFS.out.2.2 HB3.out)
  have b2 := (cell_of HBH.out 2 (v := .slice a n cap) rfl).1
  rw [HSZ.out] at hown0
  clear hn hin ht h0 h1 h2 hm hfs hfl hwf
  go_enter Tryz.func3, Tryz.ntmps3
  go_upto_region 2 with (at_builtin; refine app_ents rfl _ _ rfl (W.heap.size + 2) _ [] rfl hown0.out a m cap fs HFS.out.1 rfl HEN.out HN0.out (by have h5 := HFS.out.1; have := HM.out; simp only [List.length_nil]; omega) (by simp) ?_; intro v' w' hown' hgrow; obtain ⟨a', c', hv', -, -⟩ := own_sl hown'; rw [List.nil_append, HFS.out.1] at hv'; subst hv'; have HO := Lib.hid (show OwnE w' (W.heap.size + 2) (.slice a' m c') fs from hown'); have hbm := (hgrow.block W.heap.size (blk_lt HBH.out) (fun e => absurd (Option.some.inj e) (by show ¬ _ = W.heap.size + 2; omega))).trans HBH.out; have hbt := (hgrow.block (W.heap.size + 1) (blk_lt HBT.out) (fun e => absurd (Option.some.inj e) (by show ¬ _ = W.heap.size + 2; omega))).trans HBT.out; have HG := Lib.hid (show Below W.heap.size W w' from HB3.out.grown hgrow HB3.out.size (fun j hj => by have := (World.ownsRow.lt hown0.out j hj).1; omega)); have k2 := (cell_of hbm 2 (v := .slice a n cap) rfl).1; have k2f := (cell_of hbm 2 (v := .slice a n cap) rfl).2; have HM1 := Lib.hid hbm; have HT1 := Lib.hid hbt; clear hown' hgrow hbm hbt)
  have hm1 : Mod (fun k => k = W.heap.size) w' (w'.setCell ⟨W.heap.size, 2, none⟩ (.slice a' m c')) := Mod.cellOf _ 2 _
  have HX := Lib.hid (show (w'.setCell ⟨W.heap.size, 2, none⟩ (.slice a' m c')).heap[W.heap.size]? = some (.cells #[.int .u64 t, .int .i64 v, .slice a' m c'] 25 (0, 0)) by rw [setCell_blk HM1.out]; rfl)
  have HXT := Lib.hid (hm1.heap HT1.out (by omega))
  have HOX := Lib.hid (show OwnE _ (W.heap.size + 2) (.slice a' m c') fs from hm1.own HO.out (fun g hg e => by have := (World.ownsRow.lt HO.out g hg).1; omega))
  have HGX := Lib.hid (HG.out.trans (hm1.below HG.out.size (fun k e => by omega)))
  clear hm1 k2 k2f b2
  generalize w'.setCell ⟨W.heap.size, 2, none⟩ (.slice a' m c') = X at *
  have y0 := (cell_of HXT.out 0 (v := .int .i64 x0) rfl).1
  have y1 := (cell_of HXT.out 1 (v := .int .i64 x1) rfl).1
  have y2 := (cell_of HXT.out 2 (v := .int .i64 x2) rfl).1
  go_upto_region 3 with fail
  obtain ⟨dr, hdr⟩ : ∃ dr, dr = x1.tmod 1000 := ⟨_, rfl⟩
  have hdr1 : dr < 1000 := by rw [hdr]; exact Int.tmod_lt_of_pos _ (by omega)
  have hdr2 : -1000 < dr := by rw [hdr]; exact Int.lt_tmod_of_pos _ (by omega)
  rw [← hdr]
  have HDR := Lib.hid (show I64 dr from ⟨by omega, by omega⟩)
  have HM3 := Lib.hid (show fs.length ≤ 1000 by have := HFS.out.1; have := HM.out; omega)
  have HWF := Lib.hid (wf_mem.2 (fun e he => (HFS.out.2.1 e he).1) : ∀ i, i < fs.length → wfE (fs.getD i default))
  have HSL := Lib.hid (own_slx HOX.out)
  clear hdr hdr1 hdr2 hif hmn hcap hcm
  cases hk : newOk me t v fs with
  | false =>
    go_upto_region 3 with fail
    refine wp_region_noPanic ?_
    refine wp_region_lim (BelS X) (fun i => decide (i < 12)) (fun i => false) (by kernel_rfl) (by kernel_rfl) (Below.refl _ X).drew (fun HT hS0 => ?_)
    refine tkD HT 0 25 (v := ?_) ?_ ?_
    rotate_left
    · (intro w5 hSw; go_simp; (try with_reducible rfl))
    try simp only [s1, s2, s3]
    refine tkD HT 1 26 (v := ?_) ?_ ?_
    rotate_left
    · (intro w5 hSw; have q4 := blk_below HX.out (show Below X.heap.size X w5 from hSw); refine exec_load_row 25 (.tmp 4) ?_ W.heap.size ?_ 25 _ (0, 0) _ q4 Tryz.underlying25 rfl ?_; rfl; rfl; kernel_rfl)
    try simp only [s1, s2, s3]
    refine tkD HT 2 27 (v := ?_) ?_ ?_
    rotate_left
    · (intro w5 hSw; go_simp; (try with_reducible rfl))
    try simp only [s1, s2, s3]
    refine tkD HT 3 28 (v := ?_) ?_ ?_
    rotate_left
    · (intro w5 hSw; have q := keepc' y0 (show Below X.heap.size X w5 from hSw); go_simp; (try with_reducible rfl))
    try simp only [s1, s2, s3]
    refine tkD HT 4 29 (v := ?_) ?_ ?_
    rotate_left
    · (intro w5 hSw; go_simp; (try with_reducible rfl))
    try simp only [s1, s2, s3]
    refine tkD HT 6 31 (v := ?_) ?_ ?_
    rotate_left
    · (intro w5 hSw; go_simp; (try with_reducible rfl))
    try simp only [s1, s2, s3]
    refine tkD HT 7 32 (v := ?_) ?_ ?_
    rotate_left
    · (intro w5 hSw; have q4 := blk_below HX.out (show Below X.heap.size X w5 from hSw); refine exec_load_row 25 (.tmp 4) ?_ W.heap.size ?_ 25 _ (0, 0) _ q4 Tryz.underlying25 rfl ?_; rfl; rfl; kernel_rfl)
    try simp only [s1, s2, s3]
    refine tkD HT 8 33 (v := ?_) ?_ ?_
    rotate_left
    · (intro w5 hSw; go_simp; (try with_reducible rfl))
    try simp only [s1, s2, s3]
    refine tkD HT 9 34 (v := ?_) ?_ ?_
    rotate_left
    · (intro w5 hSw; have q := keepc' y0 (show Below X.heap.size X w5 from hSw); go_simp; (try with_reducible rfl))
    try simp only [s1, s2, s3]
    refine tkD HT 10 35 (v := ?_) ?_ ?_
    rotate_left
    · (intro w5 hSw; go_simp; (try with_reducible rfl))
    try simp only [s1, s2, s3]
    have B0 := Lib.hid (show Below X.heap.size X X.drew from (Below.refl _ X).drew)
    refine tkS 5 (fun K5 hK => ?_)
    go_simp
    go_at_call 4
    refine (new_no me t v x0 dr a' m c' fs HFS.out.1 (HSL.out.below B0.out) HM3.out HWF.out HDR.out hk).mono ?_
    rintro e w6 ⟨rfl, hb⟩
    have B6 := Lib.hid (grew_trans B0.out hb)
    clear hb
    dsimp only
    refine hK.out _ _ B6.out (fun hS1 => ?_)
    clear hK K5
    try simp only [Act.put, s1, s2, s3]
    refine tkS 11 (fun K5 hK => ?_)
    go_simp
    go_at_call 5
    refine (rnew_no me t v x0 dr a' c' fs m HFS.out.1 (HSL.out.below B6.out) HM3.out HWF.out HDR.out hk).mono ?_
    rintro e w7 ⟨rfl, hb⟩
    have B7 := Lib.hid (grew_trans B6.out hb)
    clear hb
    dsimp only
    refine hK.out _ _ B7.out (fun hS1 => ?_)
    clear hK K5
    try simp only [Act.put, s1, s2, s3]
    refine tkL 12 (fun K5 hK => ?_)
    go_simp
    refine hK.out _ _ ?_
    clear hK K5
    try simp only [Act.put, s1, s2, s3]
    refine tkL 13 (fun K5 hK => ?_)
    go_simp
    refine hK.out _ _ ?_
    clear hK K5
    try simp only [Act.put, s1, s2, s3]
    refine wpAnyM_done (by kernel_rfl) (NoPanic.normal ?_)
    have HBW := Lib.hid (HGX.out.trans (B7.out.mono HGX.out.size))
    go_wp2
    go_loopg [10] 1 (fun gk u wr => u = .int .i64 0 ∧ Below W.heap.size W wr)
    case atStart => exact ⟨rfl, HBW.out⟩
    case round =>
      obtain ⟨rfl, hbw⟩ := hrel
      have HBR := Lib.hid hbw
      clear hbw
      go_wp2_with (go_at_call 10; refine (works_any _).mono ?_; rintro e w8 ⟨rfl, hb⟩; have B8 := Lib.hid hb; clear hb)
      go_ret
      exact retB rfl (HBR.out.trans (B8.out.mono HBR.out.size))
  | true =>
    have HOK := Lib.hid (ok_new (clock := x0) (draw := dr) hk HWF.out HIN.out.2.1 HIN.out.1)
    have HME := Lib.hid (show (newC me t v fs x0 dr).me = 0 ∨ (newC me t v fs x0 dr).me = 1 ∨ (newC me t v fs x0 dr).me = 2 by have := HOK.out.me; show me = 0 ∨ me = 1 ∨ me = 2; have h3 : (newC me t v fs x0 dr).me = me := rfl; omega)
    have HGH := Lib.hid (show (newC me t v fs x0 dr).gh = 0 from rfl)
    have HRO := Lib.hid (show (newC me t v fs x0 dr).role ≠ 2 from by show (0 : Int) ≠ 2; omega)
    go_upto_region 3 with fail
    refine wp_region_noPanic ?_
    refine wp_region_lim (BelS X) (fun i => decide (i < 12)) (fun i => false) (by kernel_rfl) (by kernel_rfl) (Below.refl _ X).drew (fun HT hS0 => ?_)
    refine tkD HT 0 25 (v := ?_) ?_ ?_
    rotate_left
    · (intro w5 hSw; go_simp; (try with_reducible rfl))
    try simp only [s1, s2, s3]
    refine tkD HT 1 26 (v := ?_) ?_ ?_
    rotate_left
    · (intro w5 hSw; have q4 := blk_below HX.out (show Below X.heap.size X w5 from hSw); refine exec_load_row 25 (.tmp 4) ?_ W.heap.size ?_ 25 _ (0, 0) _ q4 Tryz.underlying25 rfl ?_; rfl; rfl; kernel_rfl)
    try simp only [s1, s2, s3]
    refine tkD HT 2 27 (v := ?_) ?_ ?_
    rotate_left
    · (intro w5 hSw; go_simp; (try with_reducible rfl))
    try simp only [s1, s2, s3]
    refine tkD HT 3 28 (v := ?_) ?_ ?_
    rotate_left
    · (intro w5 hSw; have q := keepc' y0 (show Below X.heap.size X w5 from hSw); go_simp; (try with_reducible rfl))
    try simp only [s1, s2, s3]
    refine tkD HT 4 29 (v := ?_) ?_ ?_
    rotate_left
    · (intro w5 hSw; go_simp; (try with_reducible rfl))
    try simp only [s1, s2, s3]
    refine tkD HT 6 31 (v := ?_) ?_ ?_
    rotate_left
    · (intro w5 hSw; go_simp; (try with_reducible rfl))
    try simp only [s1, s2, s3]
    refine tkD HT 7 32 (v := ?_) ?_ ?_
    rotate_left
    · (intro w5 hSw; have q4 := blk_below HX.out (show Below X.heap.size X w5 from hSw); refine exec_load_row 25 (.tmp 4) ?_ W.heap.size ?_ 25 _ (0, 0) _ q4 Tryz.underlying25 rfl ?_; rfl; rfl; kernel_rfl)
    try simp only [s1, s2, s3]
    refine tkD HT 8 33 (v := ?_) ?_ ?_
    rotate_left
    · (intro w5 hSw; go_simp; (try with_reducible rfl))
    try simp only [s1, s2, s3]
    refine tkD HT 9 34 (v := ?_) ?_ ?_
    rotate_left
    · (intro w5 hSw; have q := keepc' y0 (show Below X.heap.size X w5 from hSw); go_simp; (try with_reducible rfl))
    try simp only [s1, s2, s3]
    refine tkD HT 10 35 (v := ?_) ?_ ?_
    rotate_left
    · (intro w5 hSw; go_simp; (try with_reducible rfl))
    try simp only [s1, s2, s3]
    have B0 := Lib.hid (show Below X.heap.size X X.drew from (Below.refl _ X).drew)
    refine tkS 5 (fun K5 hK => ?_)
    go_simp
    go_at_call 4
    refine (new_yes me t v x0 dr a' m c' fs HFS.out.1 (HSL.out.below B0.out) HM3.out HWF.out HDR.out hk).mono ?_
    rintro e w6 ⟨p, lv, rfl, hcl, hb⟩
    have CL6 := Lib.hid hcl
    have B6 := Lib.hid (grew_trans B0.out hb)
    clear hcl hb
    dsimp only
    refine hK.out _ _ B6.out (fun hS1 => ?_)
    clear hK K5
    try simp only [Act.put, s1, s2, s3]
    refine tkS 11 (fun K5 hK => ?_)
    go_simp
    go_at_call 5
    refine (rnew_yes me t v x0 dr a' c' fs m HFS.out.1 (HSL.out.below B6.out) HM3.out HWF.out HDR.out hk).mono ?_
    rintro e w7 ⟨q, lr, rfl, hrl, hb⟩
    have DU := Lib.hid (Duo.start CL6.out hb hrl)
    have B7 := Lib.hid (grew_trans B6.out hb)
    have BS := Lib.hid (And.intro B6.out.size hb.size)
    clear hrl hb
    dsimp only
    refine hK.out _ _ B7.out (fun hS1 => ?_)
    clear hK K5
    try simp only [Act.put, s1, s2, s3]
    refine tkL 12 (fun K5 hK => ?_)
    go_simp
    refine hK.out _ _ ?_
    clear hK K5
    try simp only [Act.put, s1, s2, s3]
    refine tkL 13 (fun K5 hK => ?_)
    go_simp
    refine hK.out _ _ ?_
    clear hK K5
    try simp only [Act.put, s1, s2, s3]
    refine wpAnyM_done (by kernel_rfl) (NoPanic.normal ?_)
    have HX2 := Lib.hid (show X.heap.size ≤ w6.heap.size from B6.out.size)
    clear y0 y1 HT hS0
    generalize newC me t v fs x0 dr = c0 at *
    go_wp2
    go_loopg [10] 4 (fun gk u wr => ∃ i : Nat, i + gk = 4 ∧ u = .int .i64 (i : Int) ∧ Below X.heap.size X wr ∧ ∃ lv ov tv lr ovr tvr vt c, Duo wr X.drew.heap.size w6.heap.size p q lv ov tv lr ovr tvr vt c ∧ Ok c ∧ c.role ≠ 2 ∧ c.gh = 0 ∧ (c.me = 0 ∨ c.me = 1 ∨ c.me = 2))
    case atStart => exact ⟨0, by omega, rfl, B7.out, _, _, _, _, _, _, _, _, DU.out, HOK.out, HRO.out, HGH.out, HME.out⟩
    case round =>
      obtain ⟨i, hik, rfl, hbw, lv0, ov0, tv0, lr0, ovr0, tvr0, vt0, c, hdu, hok, hro, hgh, hme⟩ := hrel
      have HBR := Lib.hid hbw
      have HDU := Lib.hid hdu
      have HOK1 := Lib.hid hok
      have HRO1 := Lib.hid hro
      have HGH1 := Lib.hid hgh
      have HME1 := Lib.hid hme
      have z2 := keepc' y2 hbw
      clear hbw hdu hok hro hgh hme
      by_cases hlt : i < 4
      · have hli : (i : Int) < 4 := by omega
        go_upto_region 10 with fail
        obtain ⟨z, hz⟩ : ∃ z, z = wrap64 (x2 + 20 * (i : Int)) := ⟨_, rfl⟩
        have HZI := Lib.hid (show I64 z by rw [hz]; exact wrap_in _)
        rw [← hz]
        clear hz z2
        obtain ⟨T1, T2, T3, T4⟩ := tick_far c z dr HME1.out HRO1.out
        have HT4 := Lib.hid T4
        have HTR := Lib.hid (And.intro T1 (And.intro (show (c.tick z dr).dest.length ≤ 100 by omega) (T3.trans HGH1.out)))
        have HTM := Lib.hid (show (c.tick z dr).me = 0 ∨ (c.tick z dr).me = 1 ∨ (c.tick z dr).me = 2 by rw [tick_me c z dr HME1.out HRO1.out]; exact HME1.out)
        have HOK2 := Lib.hid (Goo.tick HOK1.out HZI.out dr).ok
        have HTK := Lib.hid (fun W1 (hd : Duo W1 X.drew.heap.size w6.heap.size p q lv0 ov0 tv0 lr0 ovr0 tvr0 vt0 c) => tick_any z dr HZI.out HDR.out hd.cl.wg (ok_wg HOK1.out _))
        clear T1 T2 T3 T4
        generalize hd' : c.tick z dr = d at *
        have HD := Lib.hid hd'
        obtain ⟨N, hN⟩ : ∃ N, N = d.out.length := ⟨_, rfl⟩
        have HN := Lib.hid (show N ≤ 1000 ∧ N = d.out.length from ⟨by rw [hN, ← hd']; exact tick_few c z dr HME1.out HRO1.out, hN⟩)
        clear hd' hN
        go_upto_region 11 with (first
          | (go_at_call 7; refine (HTK.out _ HDU.out).mono ?_; intro e w8 hO; obtain ⟨lv1, ov1, tv1, os1, rfl, hC, hM, hF⟩ := hO; rw [Co.wg_tick, HD.out] at hC; obtain ⟨a1, k1, hv1, -, -⟩ := hC.out.sli EM; have hl1 : os1.length = N := (os_len hC).trans HN.out.2.symm; rw [hl1] at hv1; subst hv1; have F8 := Lib.hid (HDU.out.first hC hM hF HTR.out.2.2); have L8 := Lib.hid (And.intro hl1 (show os1.map RM.m = d.out from hC.eq)); have M8 := Lib.hid hM; clear hC hM hF hl1)
          | (go_at_call 8; refine (rtick_any z dr HDR.out F8.out.1 HOK1.out HRO1.out).mono ?_; intro e w9 hO; rw [HD.out] at hO; obtain ⟨ov2, tv2, vt2, os2, rfl, hA, hmap, hnil, hM, hF⟩ := hO; obtain ⟨a2, k2, hv2, -, -⟩ := hA.out.sli EM; have hl2 : os2.length = N := (by rw [HN.out.2, ← hmap, List.length_map]); rw [hl2] at hv2; subst hv2; have C9 := Lib.hid (F8.out.2.2 hM); have A9 := Lib.hid hA; have L9 := Lib.hid (And.intro hmap hnil); have M9 := Lib.hid hM; clear hA hmap hnil hM hF hl2)
          | (go_at_call 6; refine (msgs_eq os1 os2 a1 a2 N k1 k2 L8.out.1 (L8.out.2.trans L9.out.1.symm) (OwnL.slix EM C9.out.out).lst (OwnL.slix EM A9.out.out).lst (fun x hx => ⟨(C9.out.ents x hx).1.ents, by rw [HT4.out x.m (by rw [← L8.out.2]; exact List.mem_map_of_mem hx)]; exact Nat.zero_le _⟩) (fun x hx => by rw [(L9.out.2 x hx).2]; exact fun i hi => absurd hi (Nat.not_lt_zero _)) HN.out.1).mono ?_; rintro e w10 ⟨rfl, hb⟩; have B10 := Lib.hid hb; clear hb)
          | (go_at_call 9; refine (same_eq (C9.out.below B10.out) (A9.out.below B10.out) HOK2.out HTR.out.1 HTR.out.2.1).mono ?_; rintro e w11 ⟨rfl, hb⟩; have B11 := Lib.hid hb; clear hb))
        go_wp2
        go_roundg (gk - 1)
        case measure => omega
        case rel =>
          have hsz : X.heap.size ≤ wr.heap.size := HBR.out.size
          have b8 : Below X.heap.size wr w8 := M8.out.below hsz (fun k hk => by
            rcases hk with e | e | e | e
            · have := HDU.out.cl.lt.1; have h5 : X.drew.heap.size = X.heap.size := rfl; omega
            · have := HDU.out.cl.lt.2 k e; have h5 : X.drew.heap.size = X.heap.size := rfl; omega
            · cases e
            · cases e)
          have b9 : Below X.heap.size w8 w9 := M9.out.below (Nat.le_trans hsz b8.size) (fun k hk => by
            rcases hk with e | e | e | e
            · have := F8.out.1.lt.1; have := HX2.out; omega
            · have := F8.out.1.lt.2 k e; have := HX2.out; omega
            · cases e
            · cases e)
          have b11 : Below w9.heap.size w9 w11 := grew_trans B10.out B11.out
          exact ⟨i + 1, by omega, by simp, ((HBR.out.trans b8).trans b9).trans (b11.mono (Nat.le_trans (Nat.le_trans hsz b8.size) b9.size)), _, _, _, _, _, _, _, d, ⟨(C9.out.below b11).toCL, (A9.out.below b11).toRL, F8.out.2.1⟩, HOK2.out, HTR.out.1, HTR.out.2.2, HTM.out⟩
      · obtain rfl : i = 4 := by omega
        go_wp2_with (go_at_call 10; refine (works_any _).mono ?_; rintro e w8 ⟨rfl, hb⟩; have B8 := Lib.hid hb; clear hb)
        go_ret
        exact retB rfl ((HGX.out.trans (HBR.out.mono HGX.out.size)).trans (B8.out.mono (Nat.le_trans HGX.out.size HBR.out.size)))
end Go.Proofs.YtcleaamjfjnkkaaGreat
