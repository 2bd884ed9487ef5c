/- Entries go to a voter. -/
import Derived.Test.YtcleaamjfjnkkaaCo3
namespace Go.Proofs.Ytcleaamjfjnkkaa
open Go.RowKit Go.Joins

section
variable {w w' : World} {base p : Nat} {lv ov tv : Value} {os : List RM} {c c' : Co}
theorem send_len (t : Int) (x : RM) (n : Nat) (hn : x.m.ents.length = n) (h : CAt w base p lv ov tv os c) (hx : EAt w (SF c p lv ov tv) x) (hl : os.length ≤ 100) (hd : c.dest.length ≤ 100) :
    Calls Try.prog 57 #[.pointer (some ⟨p, 0, none⟩), .int .i64 t, .agg #[.int .i64 x.m.kind, .int .u64 x.m.term, .int .i64 x.m.prev, .int .u64 x.m.pterm, .slice x.ea n x.ec, .int .i64 x.m.commit, .bool x.m.yes, .int .i64 x.m.mat, .int .i64 x.m.stamp, .int .u64 0, .int .i64 0, .bool false, .slice none 0 0, .int .i64 0, .int .u64 0, .int .u64 0, .int .u64 0, .int .u64 0, .int .i64 0, .int .u64 0, .int .u64 0, .int .u64 0, .int .u64 0, .int .i64 0, .int .i64 0, .slice none 0 0]] w (Tup0 (CUpd base p lv ov tv (c.send t x.m) w)) := by
  subst hn
  exact send_any t x h hx hl hd
theorem own_sl2 {es : List Ent} {n : Nat} {w w' : World} {e : Ending} (h : OwnPost es w e w') (hn : es.length = n) : ∃ a cap, e = .returned (.slice a n cap) ∧ Sl w' a cap es ∧ (∀ b off, a = some ⟨b, off, none⟩ → w.heap.size ≤ b ∧ b < w'.heap.size) ∧ Below w.heap.size w w' := by
  obtain ⟨v, he, ho, hb⟩ := h
  obtain ⟨a, cap, hv, hs, hk⟩ := own_sl ho
  subst hv hn
  exact ⟨a, cap, he, hs, hk, hb⟩
def EntS (p : Nat) (c : Co) (w' : World) : Prop := w'.cell? ⟨p, 4, none⟩ = some (.int .i64 c.commit) ∧ w'.cell? ⟨p, 10, none⟩ = some (.int .i64 c.now)
theorem CL.entS (h : CL w base p lv ov tv c) : EntS p c w := ⟨h.cells.1.2.2.2.2.1, h.cells.1.2.2.2.2.2.2.2.2.2.2.1⟩
theorem os_len (h : CAt w base p lv ov tv os c) : os.length = c.out.length := by rw [← h.eq]; simp
end
set_option linter.unusedSimpArgs false in
set_option linter.unusedVariables false in
set_option maxHeartbeats 8000000 in
set_option maxRecDepth 100000 in
theorem entries0 {w : World} {base p : Nat} {lv ov tv : Value} {os : List RM} {c : Co} (h : CAt w base p lv ov tv os c) (f : Nat) (hf : (c.pr 0).next = (f : Int) + 1) (hn : f ≤ c.log.length) (hlen : c.log.length ≤ 300) (hl : c.out.length ≤ 100) (hd : c.dest.length ≤ 100) :
    Calls Try.prog 39 #[.pointer (some ⟨p, 0, none⟩), .int .i64 0] w (Tup0 (CUpd base p lv ov tv (c.entries 0) w)) := by
  have HC := Lib.hid h
  obtain ⟨⟨-, -, -, g3, g4, -, -, -, -, -, g10, -, -⟩, -⟩ := h.toCL.cells
  have gn := (cell_of h.blk 12 (v := .int .i64 (c.pr 0).next) rfl).1
  rw [hf] at gn
  obtain ⟨la, lc, hv, hsl, -⟩ := own_sl h.log
  subst hv
  have HSL := Lib.hid hsl
  have hfr : Hid (c.from_ 0 = f) := by show _ = _; unfold Co.from_; rw [hf]; omega
  have hup : Hid (c.upto 0 = min c.log.length (f + 8)) := by show _ = _; unfold Co.upto; rw [hfr.out]
  have HE := Lib.hid (show c.entries 0 = (c.send ((0 : Nat) : Int) (c.entsM 0)).setPr 0 { c.pr 0 with sentAt := c.now, sentTo := (c.upto 0 : Int) } from rfl)
  have HM := Lib.hid (show c.entsM 0 = ⟨3, 0, (c.from_ 0 : Int), lastT (c.log.take (c.from_ 0)), (c.log.take (c.upto 0)).drop (c.from_ 0), c.commit, false, 0, c.now⟩ from rfl)
  obtain ⟨U, hU⟩ : ∃ U : Nat, U = min c.log.length (f + 8) := ⟨_, rfl⟩
  have hmin : (if (f : Int) + 8 < (c.log.length : Int) then (f : Int) + 8 else (c.log.length : Int)) = (U : Int) := by split <;> omega
  have hfU : f ≤ U := by omega
  have hUn : U ≤ c.log.length := by omega
  rw [hfr.out, hup.out, ← hU] at HM
  rw [hup.out, ← hU] at HE
  have hfl : (c.log.take f).length = f := by simp; omega
  have HFL := Lib.hid hfl
  have HFM := Lib.hid (show (c.log.take f).length ≤ maxLen by rw [hfl]; unfold maxLen; omega)
  obtain ⟨A, C, hrun, hmid⟩ := mid_sl hsl f U hfU hUn
  have HMI := Lib.hid hmid
  have HUL := Lib.hid (show ((c.log.take U).drop f).length = U - f by simp; omega)
  have HLT := Lib.hid h.lt
  have HL := Lib.hid hl
  have hcap := hsl.len
  have HD := Lib.hid hd
  have hcp2 : f ≤ lc := by omega
  clear hf hl hd hfl hmid hsl hU hfr hup h
  go_enter Try.func39, Try.ntmps39
  go_upto_region 4 with fail
  obtain ⟨Y, hY⟩ : ∃ Y, Y = w := ⟨_, rfl⟩
  subst hY
  refine wp_region_noPanic ?_
  refine wp_region_lim (EntS p c) (fun i => decide (i < 21)) (fun i => false) (by kernel_rfl) (by kernel_rfl) (HC.out.toCL.below (Below.refl _ _).drew).entS (fun HT hS0 => ?_)
  refine tkD HT 0 28 (v := ?_) ?_ ?_
  rotate_left
  · (intro w5 hSw; obtain ⟨q1, q2⟩ := hSw; go_simp; (try with_reducible rfl))
  try simp only [s1, s2, s3]
  refine tkD HT 1 29 (v := ?_) ?_ ?_
  rotate_left
  · (intro w5 hSw; obtain ⟨q1, q2⟩ := hSw; go_simp; (try with_reducible rfl))
  try simp only [s1, s2, s3]
  refine tkD HT 2 30 (v := ?_) ?_ ?_
  rotate_left
  · (intro w5 hSw; obtain ⟨q1, q2⟩ := hSw; go_simp; (try with_reducible rfl))
  try simp only [s1, s2, s3]
  refine tkD HT 3 31 (v := ?_) ?_ ?_
  rotate_left
  · (intro w5 hSw; obtain ⟨q1, q2⟩ := hSw; go_simp; (try with_reducible rfl))
  try simp only [s1, s2, s3]
  refine tkD HT 4 32 (v := ?_) ?_ ?_
  rotate_left
  · (intro w5 hSw; obtain ⟨q1, q2⟩ := hSw; go_simp; (try with_reducible rfl))
  try simp only [s1, s2, s3]
  refine tkD HT 5 33 (v := ?_) ?_ ?_
  rotate_left
  · (intro w5 hSw; obtain ⟨q1, q2⟩ := hSw; go_simp; (try with_reducible rfl))
  try simp only [s1, s2, s3]
  refine tkD HT 7 35 (v := ?_) ?_ ?_
  rotate_left
  · (intro w5 hSw; obtain ⟨q1, q2⟩ := hSw; go_simp; (try with_reducible rfl))
  try simp only [s1, s2, s3]
  refine tkD HT 8 36 (v := ?_) ?_ ?_
  rotate_left
  · (intro w5 hSw; obtain ⟨q1, q2⟩ := hSw; go_simp; (try with_reducible rfl))
  try simp only [s1, s2, s3]
  refine tkD HT 9 37 (v := ?_) ?_ ?_
  rotate_left
  · (intro w5 hSw; obtain ⟨q1, q2⟩ := hSw; go_simp; (try with_reducible rfl))
  try simp only [s1, s2, s3]
  refine tkD HT 10 38 (v := ?_) ?_ ?_
  rotate_left
  · (intro w5 hSw; obtain ⟨q1, q2⟩ := hSw; go_simp; (try with_reducible rfl))
  try simp only [s1, s2, s3]
  refine tkD HT 12 40 (v := ?_) ?_ ?_
  rotate_left
  · (intro w5 hSw; obtain ⟨q1, q2⟩ := hSw; go_simp; (try with_reducible rfl))
  try simp only [s1, s2, s3]
  refine tkD HT 13 41 (v := ?_) ?_ ?_
  rotate_left
  · (intro w5 hSw; obtain ⟨q1, q2⟩ := hSw; go_simp; (try with_reducible rfl))
  try simp only [s1, s2, s3]
  refine tkD HT 14 42 (v := ?_) ?_ ?_
  rotate_left
  · (intro w5 hSw; obtain ⟨q1, q2⟩ := hSw; go_simp; (try with_reducible rfl))
  try simp only [s1, s2, s3]
  refine tkD HT 15 43 (v := ?_) ?_ ?_
  rotate_left
  · (intro w5 hSw; obtain ⟨q1, q2⟩ := hSw; go_simp; (try with_reducible rfl))
  try simp only [s1, s2, s3]
  refine tkD HT 16 44 (v := ?_) ?_ ?_
  rotate_left
  · (intro w5 hSw; obtain ⟨q1, q2⟩ := hSw; go_simp; (try with_reducible rfl))
  try simp only [s1, s2, s3]
  refine tkD HT 17 45 (v := ?_) ?_ ?_
  rotate_left
  · (intro w5 hSw; obtain ⟨q1, q2⟩ := hSw; go_simp; (try with_reducible rfl))
  try simp only [s1, s2, s3]
  refine tkD HT 18 46 (v := ?_) ?_ ?_
  rotate_left
  · (intro w5 hSw; obtain ⟨q1, q2⟩ := hSw; go_simp; (try with_reducible rfl))
  try simp only [s1, s2, s3]
  refine tkD HT 19 47 (v := ?_) ?_ ?_
  rotate_left
  · (intro w5 hSw; obtain ⟨q1, q2⟩ := hSw; go_simp; (try with_reducible rfl))
  try simp only [s1, s2, s3]
  refine tkS 6 (fun K5 hK => ?_)
  go_simp
  go_at_call 28
  refine (clast_len la lc f _ HFL.out _ (ents_below (ents_take HSL.out.ents f) (Below.refl _ _).drew) HFM.out).mono ?_
  rintro e w6 ⟨rfl, rfl⟩
  dsimp only
  refine hK.out _ _ (HC.out.toCL.below (Below.refl _ _).drew).entS (fun hS1 => ?_)
  clear hK K5
  try simp only [Act.put, s1, s2, s3]
  refine tkS 11 (fun K5 hK => ?_)
  go_simp
  go_at_call 55
  refine (clone_len A C (U - f) _ HUL.out _ (HMI.out.below (Below.refl _ _).drew) (by omega)).mono ?_
  intro e w6 hpo
  obtain ⟨a2, c2, rfl, hs2, hk2, hb2⟩ := own_sl2 hpo HUL.out
  dsimp only
  have HS2 := Lib.hid hs2
  have HK2 := Lib.hid hk2
  have HB2 := Lib.hid (grew_trans (Below.refl _ Y).drew hb2)
  clear hs2 hk2 hb2 hpo
  refine hK.out _ _ (HC.out.toCL.below HB2.out).entS (fun hS1 => ?_)
  clear hK K5
  try simp only [Act.put, s1, s2, s3]
  refine tkD HT 20 48 (v := ?_) ?_ ?_
  rotate_left
  · (intro w5 hSw; obtain ⟨q1, q2⟩ := hSw; go_simp; (try with_reducible rfl))
  try simp only [s1, s2, s3]
  refine tkL 21 (fun K5 hK => ?_)
  go_simp
  go_at_call 57
  refine (send_len 0 ⟨a2, c2, ⟨3, 0, (f : Int), lastT (c.log.take f), (c.log.take U).drop f, c.commit, false, 0, c.now⟩⟩ (U - f) HUL.out (HC.out.below HB2.out) ⟨HS2.out, fun b off e => ⟨(HK2.out b off e).2, fun hc => by have h1 := (HK2.out b off e).1; simp at h1; rcases hc with hc | hc; (have := (HLT.out b hc).2; omega); (have := HC.out.ghl; omega)⟩⟩ (by rw [os_len HC.out]; exact HL.out) HD.out).mono ?_
  rintro e w7 ⟨rfl, hU7⟩
  have HU7 := Lib.hid (CUpd.below HB2.out hU7)
  clear hU7
  dsimp only
  refine hK.out _ _ ?_
  clear hK K5
  try simp only [Act.put, s1, s2, s3]
  refine wpAnyM_done (by kernel_rfl) (NoPanic.normal ?_)
  obtain ⟨lv1, ov1, tv1, os1, hC1, hM1, hF1⟩ := HU7.out
  have k10 : w7.cell? ⟨p, 10, none⟩ = some (.int .i64 c.now) := hC1.toCL.cells.1.2.2.2.2.2.2.2.2.2.2.1
  have k3 := cell_of hC1.blk 14 rfl
  have k4 := cell_of hC1.blk 15 rfl
  obtain ⟨k3a, k3b⟩ := k3
  obtain ⟨k4a, k4b⟩ := k4
  have HC1 := Lib.hid hC1
  have HM1 := Lib.hid hM1
  have HF1 := Lib.hid hF1
  clear hC1 hM1 hF1
  go_wp2
  go_end0
  refine ⟨rfl, CUpd.then HM1.out HF1.out ?_⟩
  rw [HE.out, HM.out]
  refine HC1.out.upd ?_ ((Mod.cellOf p 14 _).trans (Mod.cellOf p 15 _)) rfl rfl rfl
  rw [setCell_blk (setCell_blk HC1.out.blk)]
  rfl
set_option linter.unusedSimpArgs false in
set_option linter.unusedVariables false in
set_option maxHeartbeats 8000000 in
set_option maxRecDepth 100000 in
theorem entries1 {w : World} {base p : Nat} {lv ov tv : Value} {os : List RM} {c : Co} (h : CAt w base p lv ov tv os c) (f : Nat) (hf : (c.pr 1).next = (f : Int) + 1) (hn : f ≤ c.log.length) (hlen : c.log.length ≤ 300) (hl : c.out.length ≤ 100) (hd : c.dest.length ≤ 100) :
    Calls Try.prog 39 #[.pointer (some ⟨p, 0, none⟩), .int .i64 1] w (Tup0 (CUpd base p lv ov tv (c.entries 1) w)) := by
  have HC := Lib.hid h
  obtain ⟨⟨-, -, -, g3, g4, -, -, -, -, -, g10, -, -⟩, -⟩ := h.toCL.cells
  have gn := (cell_of h.blk 18 (v := .int .i64 (c.pr 1).next) rfl).1
  rw [hf] at gn
  obtain ⟨la, lc, hv, hsl, -⟩ := own_sl h.log
  subst hv
  have HSL := Lib.hid hsl
  have hfr : Hid (c.from_ 1 = f) := by show _ = _; unfold Co.from_; rw [hf]; omega
  have hup : Hid (c.upto 1 = min c.log.length (f + 8)) := by show _ = _; unfold Co.upto; rw [hfr.out]
  have HE := Lib.hid (show c.entries 1 = (c.send ((1 : Nat) : Int) (c.entsM 1)).setPr 1 { c.pr 1 with sentAt := c.now, sentTo := (c.upto 1 : Int) } from rfl)
  have HM := Lib.hid (show c.entsM 1 = ⟨3, 0, (c.from_ 1 : Int), lastT (c.log.take (c.from_ 1)), (c.log.take (c.upto 1)).drop (c.from_ 1), c.commit, false, 0, c.now⟩ from rfl)
  obtain ⟨U, hU⟩ : ∃ U : Nat, U = min c.log.length (f + 8) := ⟨_, rfl⟩
  have hmin : (if (f : Int) + 8 < (c.log.length : Int) then (f : Int) + 8 else (c.log.length : Int)) = (U : Int) := by split <;> omega
  have hfU : f ≤ U := by omega
  have hUn : U ≤ c.log.length := by omega
  rw [hfr.out, hup.out, ← hU] at HM
  rw [hup.out, ← hU] at HE
  have hfl : (c.log.take f).length = f := by simp; omega
  have HFL := Lib.hid hfl
  have HFM := Lib.hid (show (c.log.take f).length ≤ maxLen by rw [hfl]; unfold maxLen; omega)
  obtain ⟨A, C, hrun, hmid⟩ := mid_sl hsl f U hfU hUn
  have HMI := Lib.hid hmid
  have HUL := Lib.hid (show ((c.log.take U).drop f).length = U - f by simp; omega)
  have HLT := Lib.hid h.lt
  have HL := Lib.hid hl
  have hcap := hsl.len
  have HD := Lib.hid hd
  have hcp2 : f ≤ lc := by omega
  clear hf hl hd hfl hmid hsl hU hfr hup h
  go_enter Try.func39, Try.ntmps39
  go_upto_region 4 with fail
  obtain ⟨Y, hY⟩ : ∃ Y, Y = w := ⟨_, rfl⟩
  subst hY
  refine wp_region_noPanic ?_
  refine wp_region_lim (EntS p c) (fun i => decide (i < 21)) (fun i => false) (by kernel_rfl) (by kernel_rfl) (HC.out.toCL.below (Below.refl _ _).drew).entS (fun HT hS0 => ?_)
  refine tkD HT 0 28 (v := ?_) ?_ ?_
  rotate_left
  · (intro w5 hSw; obtain ⟨q1, q2⟩ := hSw; go_simp; (try with_reducible rfl))
  try simp only [s1, s2, s3]
  refine tkD HT 1 29 (v := ?_) ?_ ?_
  rotate_left
  · (intro w5 hSw; obtain ⟨q1, q2⟩ := hSw; go_simp; (try with_reducible rfl))
  try simp only [s1, s2, s3]
  refine tkD HT 2 30 (v := ?_) ?_ ?_
  rotate_left
  · (intro w5 hSw; obtain ⟨q1, q2⟩ := hSw; go_simp; (try with_reducible rfl))
  try simp only [s1, s2, s3]
  refine tkD HT 3 31 (v := ?_) ?_ ?_
  rotate_left
  · (intro w5 hSw; obtain ⟨q1, q2⟩ := hSw; go_simp; (try with_reducible rfl))
  try simp only [s1, s2, s3]
  refine tkD HT 4 32 (v := ?_) ?_ ?_
  rotate_left
  · (intro w5 hSw; obtain ⟨q1, q2⟩ := hSw; go_simp; (try with_reducible rfl))
  try simp only [s1, s2, s3]
  refine tkD HT 5 33 (v := ?_) ?_ ?_
  rotate_left
  · (intro w5 hSw; obtain ⟨q1, q2⟩ := hSw; go_simp; (try with_reducible rfl))
  try simp only [s1, s2, s3]
  refine tkD HT 7 35 (v := ?_) ?_ ?_
  rotate_left
  · (intro w5 hSw; obtain ⟨q1, q2⟩ := hSw; go_simp; (try with_reducible rfl))
  try simp only [s1, s2, s3]
  refine tkD HT 8 36 (v := ?_) ?_ ?_
  rotate_left
  · (intro w5 hSw; obtain ⟨q1, q2⟩ := hSw; go_simp; (try with_reducible rfl))
  try simp only [s1, s2, s3]
  refine tkD HT 9 37 (v := ?_) ?_ ?_
  rotate_left
  · (intro w5 hSw; obtain ⟨q1, q2⟩ := hSw; go_simp; (try with_reducible rfl))
  try simp only [s1, s2, s3]
  refine tkD HT 10 38 (v := ?_) ?_ ?_
  rotate_left
  · (intro w5 hSw; obtain ⟨q1, q2⟩ := hSw; go_simp; (try with_reducible rfl))
  try simp only [s1, s2, s3]
  refine tkD HT 12 40 (v := ?_) ?_ ?_
  rotate_left
  · (intro w5 hSw; obtain ⟨q1, q2⟩ := hSw; go_simp; (try with_reducible rfl))
  try simp only [s1, s2, s3]
  refine tkD HT 13 41 (v := ?_) ?_ ?_
  rotate_left
  · (intro w5 hSw; obtain ⟨q1, q2⟩ := hSw; go_simp; (try with_reducible rfl))
  try simp only [s1, s2, s3]
  refine tkD HT 14 42 (v := ?_) ?_ ?_
  rotate_left
  · (intro w5 hSw; obtain ⟨q1, q2⟩ := hSw; go_simp; (try with_reducible rfl))
  try simp only [s1, s2, s3]
  refine tkD HT 15 43 (v := ?_) ?_ ?_
  rotate_left
  · (intro w5 hSw; obtain ⟨q1, q2⟩ := hSw; go_simp; (try with_reducible rfl))
  try simp only [s1, s2, s3]
  refine tkD HT 16 44 (v := ?_) ?_ ?_
  rotate_left
  · (intro w5 hSw; obtain ⟨q1, q2⟩ := hSw; go_simp; (try with_reducible rfl))
  try simp only [s1, s2, s3]
  refine tkD HT 17 45 (v := ?_) ?_ ?_
  rotate_left
  · (intro w5 hSw; obtain ⟨q1, q2⟩ := hSw; go_simp; (try with_reducible rfl))
  try simp only [s1, s2, s3]
  refine tkD HT 18 46 (v := ?_) ?_ ?_
  rotate_left
  · (intro w5 hSw; obtain ⟨q1, q2⟩ := hSw; go_simp; (try with_reducible rfl))
  try simp only [s1, s2, s3]
  refine tkD HT 19 47 (v := ?_) ?_ ?_
  rotate_left
  · (intro w5 hSw; obtain ⟨q1, q2⟩ := hSw; go_simp; (try with_reducible rfl))
  try simp only [s1, s2, s3]
  refine tkS 6 (fun K5 hK => ?_)
  go_simp
  go_at_call 28
  refine (clast_len la lc f _ HFL.out _ (ents_below (ents_take HSL.out.ents f) (Below.refl _ _).drew) HFM.out).mono ?_
  rintro e w6 ⟨rfl, rfl⟩
  dsimp only
  refine hK.out _ _ (HC.out.toCL.below (Below.refl _ _).drew).entS (fun hS1 => ?_)
  clear hK K5
  try simp only [Act.put, s1, s2, s3]
  refine tkS 11 (fun K5 hK => ?_)
  go_simp
  go_at_call 55
  refine (clone_len A C (U - f) _ HUL.out _ (HMI.out.below (Below.refl _ _).drew) (by omega)).mono ?_
  intro e w6 hpo
  obtain ⟨a2, c2, rfl, hs2, hk2, hb2⟩ := own_sl2 hpo HUL.out
  dsimp only
  have HS2 := Lib.hid hs2
  have HK2 := Lib.hid hk2
  have HB2 := Lib.hid (grew_trans (Below.refl _ Y).drew hb2)
  clear hs2 hk2 hb2 hpo
  refine hK.out _ _ (HC.out.toCL.below HB2.out).entS (fun hS1 => ?_)
  clear hK K5
  try simp only [Act.put, s1, s2, s3]
  refine tkD HT 20 48 (v := ?_) ?_ ?_
  rotate_left
  · (intro w5 hSw; obtain ⟨q1, q2⟩ := hSw; go_simp; (try with_reducible rfl))
  try simp only [s1, s2, s3]
  refine tkL 21 (fun K5 hK => ?_)
  go_simp
  go_at_call 57
  refine (send_len 1 ⟨a2, c2, ⟨3, 0, (f : Int), lastT (c.log.take f), (c.log.take U).drop f, c.commit, false, 0, c.now⟩⟩ (U - f) HUL.out (HC.out.below HB2.out) ⟨HS2.out, fun b off e => ⟨(HK2.out b off e).2, fun hc => by have h1 := (HK2.out b off e).1; simp at h1; rcases hc with hc | hc; (have := (HLT.out b hc).2; omega); (have := HC.out.ghl; omega)⟩⟩ (by rw [os_len HC.out]; exact HL.out) HD.out).mono ?_
  rintro e w7 ⟨rfl, hU7⟩
  have HU7 := Lib.hid (CUpd.below HB2.out hU7)
  clear hU7
  dsimp only
  refine hK.out _ _ ?_
  clear hK K5
  try simp only [Act.put, s1, s2, s3]
  refine wpAnyM_done (by kernel_rfl) (NoPanic.normal ?_)
  obtain ⟨lv1, ov1, tv1, os1, hC1, hM1, hF1⟩ := HU7.out
  have k10 : w7.cell? ⟨p, 10, none⟩ = some (.int .i64 c.now) := hC1.toCL.cells.1.2.2.2.2.2.2.2.2.2.2.1
  have k3 := cell_of hC1.blk 20 rfl
  have k4 := cell_of hC1.blk 21 rfl
  obtain ⟨k3a, k3b⟩ := k3
  obtain ⟨k4a, k4b⟩ := k4
  have HC1 := Lib.hid hC1
  have HM1 := Lib.hid hM1
  have HF1 := Lib.hid hF1
  clear hC1 hM1 hF1
  go_wp2
  go_end0
  refine ⟨rfl, CUpd.then HM1.out HF1.out ?_⟩
  rw [HE.out, HM.out]
  refine HC1.out.upd ?_ ((Mod.cellOf p 20 _).trans (Mod.cellOf p 21 _)) rfl rfl rfl
  rw [setCell_blk (setCell_blk HC1.out.blk)]
  rfl
set_option linter.unusedSimpArgs false in
set_option linter.unusedVariables false in
set_option maxHeartbeats 8000000 in
set_option maxRecDepth 100000 in
theorem entries2 {w : World} {base p : Nat} {lv ov tv : Value} {os : List RM} {c : Co} (h : CAt w base p lv ov tv os c) (f : Nat) (hf : (c.pr 2).next = (f : Int) + 1) (hn : f ≤ c.log.length) (hlen : c.log.length ≤ 300) (hl : c.out.length ≤ 100) (hd : c.dest.length ≤ 100) :
    Calls Try.prog 39 #[.pointer (some ⟨p, 0, none⟩), .int .i64 2] w (Tup0 (CUpd base p lv ov tv (c.entries 2) w)) := by
  have HC := Lib.hid h
  obtain ⟨⟨-, -, -, g3, g4, -, -, -, -, -, g10, -, -⟩, -⟩ := h.toCL.cells
  have gn := (cell_of h.blk 24 (v := .int .i64 (c.pr 2).next) rfl).1
  rw [hf] at gn
  obtain ⟨la, lc, hv, hsl, -⟩ := own_sl h.log
  subst hv
  have HSL := Lib.hid hsl
  have hfr : Hid (c.from_ 2 = f) := by show _ = _; unfold Co.from_; rw [hf]; omega
  have hup : Hid (c.upto 2 = min c.log.length (f + 8)) := by show _ = _; unfold Co.upto; rw [hfr.out]
  have HE := Lib.hid (show c.entries 2 = (c.send ((2 : Nat) : Int) (c.entsM 2)).setPr 2 { c.pr 2 with sentAt := c.now, sentTo := (c.upto 2 : Int) } from rfl)
  have HM := Lib.hid (show c.entsM 2 = ⟨3, 0, (c.from_ 2 : Int), lastT (c.log.take (c.from_ 2)), (c.log.take (c.upto 2)).drop (c.from_ 2), c.commit, false, 0, c.now⟩ from rfl)
  obtain ⟨U, hU⟩ : ∃ U : Nat, U = min c.log.length (f + 8) := ⟨_, rfl⟩
  have hmin : (if (f : Int) + 8 < (c.log.length : Int) then (f : Int) + 8 else (c.log.length : Int)) = (U : Int) := by split <;> omega
  have hfU : f ≤ U := by omega
  have hUn : U ≤ c.log.length := by omega
  rw [hfr.out, hup.out, ← hU] at HM
  rw [hup.out, ← hU] at HE
  have hfl : (c.log.take f).length = f := by simp; omega
  have HFL := Lib.hid hfl
  have HFM := Lib.hid (show (c.log.take f).length ≤ maxLen by rw [hfl]; unfold maxLen; omega)
  obtain ⟨A, C, hrun, hmid⟩ := mid_sl hsl f U hfU hUn
  have HMI := Lib.hid hmid
  have HUL := Lib.hid (show ((c.log.take U).drop f).length = U - f by simp; omega)
  have HLT := Lib.hid h.lt
  have HL := Lib.hid hl
  have hcap := hsl.len
  have HD := Lib.hid hd
  have hcp2 : f ≤ lc := by omega
  clear hf hl hd hfl hmid hsl hU hfr hup h
  go_enter Try.func39, Try.ntmps39
  go_upto_region 4 with fail
  obtain ⟨Y, hY⟩ : ∃ Y, Y = w := ⟨_, rfl⟩
  subst hY
  refine wp_region_noPanic ?_
  refine wp_region_lim (EntS p c) (fun i => decide (i < 21)) (fun i => false) (by kernel_rfl) (by kernel_rfl) (HC.out.toCL.below (Below.refl _ _).drew).entS (fun HT hS0 => ?_)
  refine tkD HT 0 28 (v := ?_) ?_ ?_
  rotate_left
  · (intro w5 hSw; obtain ⟨q1, q2⟩ := hSw; go_simp; (try with_reducible rfl))
  try simp only [s1, s2, s3]
  refine tkD HT 1 29 (v := ?_) ?_ ?_
  rotate_left
  · (intro w5 hSw; obtain ⟨q1, q2⟩ := hSw; go_simp; (try with_reducible rfl))
  try simp only [s1, s2, s3]
  refine tkD HT 2 30 (v := ?_) ?_ ?_
  rotate_left
  · (intro w5 hSw; obtain ⟨q1, q2⟩ := hSw; go_simp; (try with_reducible rfl))
  try simp only [s1, s2, s3]
  refine tkD HT 3 31 (v := ?_) ?_ ?_
  rotate_left
  · (intro w5 hSw; obtain ⟨q1, q2⟩ := hSw; go_simp; (try with_reducible rfl))
  try simp only [s1, s2, s3]
  refine tkD HT 4 32 (v := ?_) ?_ ?_
  rotate_left
  · (intro w5 hSw; obtain ⟨q1, q2⟩ := hSw; go_simp; (try with_reducible rfl))
  try simp only [s1, s2, s3]
  refine tkD HT 5 33 (v := ?_) ?_ ?_
  rotate_left
  · (intro w5 hSw; obtain ⟨q1, q2⟩ := hSw; go_simp; (try with_reducible rfl))
  try simp only [s1, s2, s3]
  refine tkD HT 7 35 (v := ?_) ?_ ?_
  rotate_left
  · (intro w5 hSw; obtain ⟨q1, q2⟩ := hSw; go_simp; (try with_reducible rfl))
  try simp only [s1, s2, s3]
  refine tkD HT 8 36 (v := ?_) ?_ ?_
  rotate_left
  · (intro w5 hSw; obtain ⟨q1, q2⟩ := hSw; go_simp; (try with_reducible rfl))
  try simp only [s1, s2, s3]
  refine tkD HT 9 37 (v := ?_) ?_ ?_
  rotate_left
  · (intro w5 hSw; obtain ⟨q1, q2⟩ := hSw; go_simp; (try with_reducible rfl))
  try simp only [s1, s2, s3]
  refine tkD HT 10 38 (v := ?_) ?_ ?_
  rotate_left
  · (intro w5 hSw; obtain ⟨q1, q2⟩ := hSw; go_simp; (try with_reducible rfl))
  try simp only [s1, s2, s3]
  refine tkD HT 12 40 (v := ?_) ?_ ?_
  rotate_left
  · (intro w5 hSw; obtain ⟨q1, q2⟩ := hSw; go_simp; (try with_reducible rfl))
  try simp only [s1, s2, s3]
  refine tkD HT 13 41 (v := ?_) ?_ ?_
  rotate_left
  · (intro w5 hSw; obtain ⟨q1, q2⟩ := hSw; go_simp; (try with_reducible rfl))
  try simp only [s1, s2, s3]
  refine tkD HT 14 42 (v := ?_) ?_ ?_
  rotate_left
  · (intro w5 hSw; obtain ⟨q1, q2⟩ := hSw; go_simp; (try with_reducible rfl))
  try simp only [s1, s2, s3]
  refine tkD HT 15 43 (v := ?_) ?_ ?_
  rotate_left
  · (intro w5 hSw; obtain ⟨q1, q2⟩ := hSw; go_simp; (try with_reducible rfl))
  try simp only [s1, s2, s3]
  refine tkD HT 16 44 (v := ?_) ?_ ?_
  rotate_left
  · (intro w5 hSw; obtain ⟨q1, q2⟩ := hSw; go_simp; (try with_reducible rfl))
  try simp only [s1, s2, s3]
  refine tkD HT 17 45 (v := ?_) ?_ ?_
  rotate_left
  · (intro w5 hSw; obtain ⟨q1, q2⟩ := hSw; go_simp; (try with_reducible rfl))
  try simp only [s1, s2, s3]
  refine tkD HT 18 46 (v := ?_) ?_ ?_
  rotate_left
  · (intro w5 hSw; obtain ⟨q1, q2⟩ := hSw; go_simp; (try with_reducible rfl))
  try simp only [s1, s2, s3]
  refine tkD HT 19 47 (v := ?_) ?_ ?_
  rotate_left
  · (intro w5 hSw; obtain ⟨q1, q2⟩ := hSw; go_simp; (try with_reducible rfl))
  try simp only [s1, s2, s3]
  refine tkS 6 (fun K5 hK => ?_)
  go_simp
  go_at_call 28
  refine (clast_len la lc f _ HFL.out _ (ents_below (ents_take HSL.out.ents f) (Below.refl _ _).drew) HFM.out).mono ?_
  rintro e w6 ⟨rfl, rfl⟩
  dsimp only
  refine hK.out _ _ (HC.out.toCL.below (Below.refl _ _).drew).entS (fun hS1 => ?_)
  clear hK K5
  try simp only [Act.put, s1, s2, s3]
  refine tkS 11 (fun K5 hK => ?_)
  go_simp
  go_at_call 55
  refine (clone_len A C (U - f) _ HUL.out _ (HMI.out.below (Below.refl _ _).drew) (by omega)).mono ?_
  intro e w6 hpo
  obtain ⟨a2, c2, rfl, hs2, hk2, hb2⟩ := own_sl2 hpo HUL.out
  dsimp only
  have HS2 := Lib.hid hs2
  have HK2 := Lib.hid hk2
  have HB2 := Lib.hid (grew_trans (Below.refl _ Y).drew hb2)
  clear hs2 hk2 hb2 hpo
  refine hK.out _ _ (HC.out.toCL.below HB2.out).entS (fun hS1 => ?_)
  clear hK K5
  try simp only [Act.put, s1, s2, s3]
  refine tkD HT 20 48 (v := ?_) ?_ ?_
  rotate_left
  · (intro w5 hSw; obtain ⟨q1, q2⟩ := hSw; go_simp; (try with_reducible rfl))
  try simp only [s1, s2, s3]
  refine tkL 21 (fun K5 hK => ?_)
  go_simp
  go_at_call 57
  refine (send_len 2 ⟨a2, c2, ⟨3, 0, (f : Int), lastT (c.log.take f), (c.log.take U).drop f, c.commit, false, 0, c.now⟩⟩ (U - f) HUL.out (HC.out.below HB2.out) ⟨HS2.out, fun b off e => ⟨(HK2.out b off e).2, fun hc => by have h1 := (HK2.out b off e).1; simp at h1; rcases hc with hc | hc; (have := (HLT.out b hc).2; omega); (have := HC.out.ghl; omega)⟩⟩ (by rw [os_len HC.out]; exact HL.out) HD.out).mono ?_
  rintro e w7 ⟨rfl, hU7⟩
  have HU7 := Lib.hid (CUpd.below HB2.out hU7)
  clear hU7
  dsimp only
  refine hK.out _ _ ?_
  clear hK K5
  try simp only [Act.put, s1, s2, s3]
  refine wpAnyM_done (by kernel_rfl) (NoPanic.normal ?_)
  obtain ⟨lv1, ov1, tv1, os1, hC1, hM1, hF1⟩ := HU7.out
  have k10 : w7.cell? ⟨p, 10, none⟩ = some (.int .i64 c.now) := hC1.toCL.cells.1.2.2.2.2.2.2.2.2.2.2.1
  have k3 := cell_of hC1.blk 26 rfl
  have k4 := cell_of hC1.blk 27 rfl
  obtain ⟨k3a, k3b⟩ := k3
  obtain ⟨k4a, k4b⟩ := k4
  have HC1 := Lib.hid hC1
  have HM1 := Lib.hid hM1
  have HF1 := Lib.hid hF1
  clear hC1 hM1 hF1
  go_wp2
  go_end0
  refine ⟨rfl, CUpd.then HM1.out HF1.out ?_⟩
  rw [HE.out, HM.out]
  refine HC1.out.upd ?_ ((Mod.cellOf p 26 _).trans (Mod.cellOf p 27 _)) rfl rfl rfl
  rw [setCell_blk (setCell_blk HC1.out.blk)]
  rfl
theorem entries_any {w : World} {base p : Nat} {lv ov tv : Value} {os : List RM} {c : Co} (v : Nat) (hv : v < 3) (h : CAt w base p lv ov tv os c) (h1 : 1 ≤ (c.pr v).next) (h2 : (c.pr v).next ≤ (c.log.length : Int) + 1) (hlen : c.log.length ≤ 300) (hl : c.out.length ≤ 100) (hd : c.dest.length ≤ 100) :
    Calls Try.prog 39 #[.pointer (some ⟨p, 0, none⟩), .int .i64 (v : Int)] w (Tup0 (CUpd base p lv ov tv (c.entries v) w)) := by
  obtain rfl | rfl | rfl : v = 0 ∨ v = 1 ∨ v = 2 := by omega
  · exact entries0 h ((c.pr 0).next - 1).toNat (by omega) (by omega) hlen hl hd
  · exact entries1 h ((c.pr 1).next - 1).toNat (by omega) (by omega) hlen hl hd
  · exact entries2 h ((c.pr 2).next - 1).toNat (by omega) (by omega) hlen hl hd
end Go.Proofs.Ytcleaamjfjnkkaa
