/- A campaign for votes. -/
import Derived.Test.YtcleaamjfjnkkaaCo4
namespace Go.Proofs.Ytcleaamjfjnkkaa
open Go.RowKit Go.Joins

/-- the first voters, one by one. -/
def part (f : Co → Nat → Co) (c : Co) : Nat → Co
  | 0 => c
  | n + 1 => Co.one f (part f c n) n
theorem part_3 (f : Co → Nat → Co) (c : Co) : part f c 3 = Co.others f c := rfl
theorem part_keep {α : Type} (g : Co → α) {f : Co → Nat → Co} (hf : ∀ d v, g (f d v) = g d) (c : Co) : ∀ n, g (part f c n) = g c
  | 0 => rfl
  | n + 1 => by show g (Co.one f (part f c n) n) = _; unfold Co.one; split; exact part_keep g hf c n; rw [hf]; exact part_keep g hf c n
theorem part_grow (g : Co → Nat) {f : Co → Nat → Co} (hf : ∀ d v, g (f d v) ≤ g d + 1) (c : Co) : ∀ n, g (part f c n) ≤ g c + n
  | 0 => Nat.le_refl _
  | n + 1 => by
    have ih := part_grow g hf c n
    show g (Co.one f (part f c n) n) ≤ _
    unfold Co.one
    split
    · omega
    · have := hf (part f c n) n; omega
theorem part_skip {f : Co → Nat → Co} {c : Co} {v : Nat} (h : (v : Int) = (part f c v).me) : part f c (v + 1) = part f c v := by show Co.one f _ v = _; unfold Co.one; rw [if_pos h]
theorem part_step {f : Co → Nat → Co} {c : Co} {v : Nat} (h : (v : Int) ≠ (part f c v).me) : part f c (v + 1) = f (part f c v) v := by show Co.one f _ v = _; unfold Co.one; rw [if_neg h]
theorem box_keep {w w' : World} {S : Nat → Prop} {bx : Nat} {v : Value} (hc : w.cell? ⟨bx, 0, none⟩ = some v) (hm : Mod S w w') (hs : ¬ S bx) : w'.cell? ⟨bx, 0, none⟩ = some v := hm.cell hc hs
theorem sl_of_own {w : World} {base n : Nat} {a : Option Addr} {c : Nat} {es : List Ent} (h : OwnE w base (.slice a n c) es) : Sl w a c es := by
  obtain ⟨a', c', e, hs, _⟩ := own_sl h
  simp at e
  obtain ⟨rfl, _, rfl⟩ := e
  exact hs
def CampS (p bx : Nat) (lv : Value) (w' : World) : Prop := w'.cell? ⟨bx, 0, none⟩ = some (.pointer (some ⟨p, 0, none⟩)) ∧ w'.cell? ⟨p, 3, none⟩ = some lv
set_option linter.unusedSimpArgs false in
set_option linter.unusedVariables false in
set_option maxHeartbeats 8000000 in
set_option maxRecDepth 100000 in
theorem camp0 {w : World} {base p bx : Nat} {lv ov tv : Value} {os : List RM} {c : Co} (h : CAt w base p lv ov tv os c) (hx : w.cell? ⟨bx, 0, none⟩ = some (.pointer (some ⟨p, 0, none⟩))) (hb : ¬ CF p lv ov tv bx) (hlen : c.log.length ≤ 300) (hl : c.out.length ≤ 100) (hd : c.dest.length ≤ 100) :
    Calls Try.prog 59 #[.int .i64 0, .pointer (some ⟨bx, 0, none⟩)] w (Tup0 (CUpd base p lv ov tv (c.campOne 0) w)) := by
  have HC := Lib.hid h
  obtain ⟨gn, gf⟩ := cell_of h.blk 16 (v := .bool (c.pr 0).votes) rfl
  have hne : bx ≠ p := fun e => hb (.inl e)
  have H1 := Lib.hid (h.put (c' := c.setPr 0 { c.pr 0 with votes := false }) (w' := w.setCell ⟨p, 16, none⟩ (.bool false)) (by rw [setCell_blk h.blk]; rfl) (Mod.cellOf p 16 _) rfl rfl rfl)
  have HX := Lib.hid (show (w.setCell ⟨p, 16, none⟩ (.bool false)).cell? ⟨bx, 0, none⟩ = some (.pointer (some ⟨p, 0, none⟩)) from box_keep hx (Mod.cellOf p 16 (.bool false)) hne)
  have HMS := Lib.hid (show Mod (CF p lv ov tv) w (w.setCell ⟨p, 16, none⟩ (.bool false)) from (Mod.cellOf p 16 _).mono (fun _ _ e => .inl e))
  have HE := Lib.hid (show c.campOne 0 = (c.setPr 0 { c.pr 0 with votes := false }).send ((0 : Nat) : Int) { mg0 1 with prev := (c.log.length : Int), pterm := lastT c.log } from rfl)
  obtain ⟨la, lc, hv, hsl, -⟩ := own_sl h.log
  subst hv
  have HSL := Lib.hid (H1.out.log)
  have HLM := Lib.hid (show c.log.length ≤ maxLen by unfold maxLen; omega)
  have HL := Lib.hid hl
  have HD := Lib.hid hd
  have HB := Lib.hid hb
  clear h hb hl hd hsl
  go_enter Try.func59, Try.ntmps59
  go_upto_region 1 with fail
  generalize w.setCell ⟨p, 16, none⟩ (.bool false) = Y at *
  clear gn gf hx
  refine wp_region_noPanic ?_
  refine wp_region_lim (CampS p bx (.slice la c.log.length lc)) (fun i => decide (i < 15)) (fun i => false) (by kernel_rfl) (by kernel_rfl) ⟨HX.out, H1.out.toCL.cells.1.2.2.2.1⟩ (fun HT hS0 => ?_)
  refine tkD HT 0 9 (v := ?_) ?_ ?_
  rotate_left
  · (intro w5 hSw; obtain ⟨q1, q2⟩ := hSw; go_simp; (try with_reducible rfl))
  try simp only [s1, s2, s3]
  refine tkD HT 1 10 (v := ?_) ?_ ?_
  rotate_left
  · (intro w5 hSw; obtain ⟨q1, q2⟩ := hSw; go_simp; (try with_reducible rfl))
  try simp only [s1, s2, s3]
  refine tkD HT 2 11 (v := ?_) ?_ ?_
  rotate_left
  · (intro w5 hSw; obtain ⟨q1, q2⟩ := hSw; go_simp; (try with_reducible rfl))
  try simp only [s1, s2, s3]
  refine tkD HT 3 12 (v := ?_) ?_ ?_
  rotate_left
  · (intro w5 hSw; obtain ⟨q1, q2⟩ := hSw; go_simp; (try with_reducible rfl))
  try simp only [s1, s2, s3]
  refine tkD HT 4 13 (v := ?_) ?_ ?_
  rotate_left
  · (intro w5 hSw; obtain ⟨q1, q2⟩ := hSw; go_simp; (try with_reducible rfl))
  try simp only [s1, s2, s3]
  refine tkD HT 5 14 (v := ?_) ?_ ?_
  rotate_left
  · (intro w5 hSw; obtain ⟨q1, q2⟩ := hSw; go_simp; (try with_reducible rfl))
  try simp only [s1, s2, s3]
  refine tkD HT 6 15 (v := ?_) ?_ ?_
  rotate_left
  · (intro w5 hSw; obtain ⟨q1, q2⟩ := hSw; go_simp; (try with_reducible rfl))
  try simp only [s1, s2, s3]
  refine tkD HT 7 16 (v := ?_) ?_ ?_
  rotate_left
  · (intro w5 hSw; obtain ⟨q1, q2⟩ := hSw; go_simp; (try with_reducible rfl))
  try simp only [s1, s2, s3]
  refine tkD HT 8 17 (v := ?_) ?_ ?_
  rotate_left
  · (intro w5 hSw; obtain ⟨q1, q2⟩ := hSw; go_simp; (try with_reducible rfl))
  try simp only [s1, s2, s3]
  refine tkD HT 9 18 (v := ?_) ?_ ?_
  rotate_left
  · (intro w5 hSw; obtain ⟨q1, q2⟩ := hSw; go_simp; (try with_reducible rfl))
  try simp only [s1, s2, s3]
  refine tkD HT 10 19 (v := ?_) ?_ ?_
  rotate_left
  · (intro w5 hSw; obtain ⟨q1, q2⟩ := hSw; go_simp; (try with_reducible rfl))
  try simp only [s1, s2, s3]
  refine tkD HT 11 20 (v := ?_) ?_ ?_
  rotate_left
  · (intro w5 hSw; obtain ⟨q1, q2⟩ := hSw; go_simp; (try with_reducible rfl))
  try simp only [s1, s2, s3]
  refine tkD HT 12 21 (v := ?_) ?_ ?_
  rotate_left
  · (intro w5 hSw; obtain ⟨q1, q2⟩ := hSw; go_simp; (try with_reducible rfl))
  try simp only [s1, s2, s3]
  refine tkS 13 (fun K5 hK => ?_)
  go_simp
  go_at_call 28
  refine (clast_len la lc c.log.length c.log rfl _ (ents_below (Sl.ents (sl_of_own HSL.out)) (Below.refl _ _).drew) HLM.out).mono ?_
  rintro e w6 ⟨rfl, rfl⟩
  dsimp only
  refine hK.out _ _ ⟨HX.out, H1.out.toCL.cells.1.2.2.2.1⟩ (fun hS1 => ?_)
  clear hK K5
  try simp only [Act.put, s1, s2, s3]
  refine tkD HT 14 23 (v := ?_) ?_ ?_
  rotate_left
  · (intro w5 hSw; obtain ⟨q1, q2⟩ := hSw; go_simp; (try with_reducible rfl))
  try simp only [s1, s2, s3]
  refine tkL 15 (fun K5 hK => ?_)
  go_simp
  go_at_call 57
  refine (send_len 0 ⟨none, 0, { mg0 1 with prev := (c.log.length : Int), pterm := lastT c.log }⟩ 0 rfl (H1.out.below (Below.refl _ _).drew) ⟨Sl.nil _, fun _ _ e => by cases e⟩ (by rw [os_len H1.out]; exact HL.out) HD.out).mono ?_
  rintro e w7 ⟨rfl, hU7⟩
  have HU7 := Lib.hid (CUpd.below (Below.refl _ Y).drew hU7)
  clear hU7
  dsimp only
  refine hK.out _ _ ?_
  clear hK K5
  try simp only [Act.put, s1, s2, s3]
  refine wpAnyM_done (by kernel_rfl) (NoPanic.normal ?_)
  go_wp2
  go_end0
  rw [HE.out]
  exact ⟨rfl, CUpd.then HMS.out (fun _ hk => .inl hk) HU7.out⟩
set_option linter.unusedSimpArgs false in
set_option linter.unusedVariables false in
set_option maxHeartbeats 8000000 in
set_option maxRecDepth 100000 in
theorem camp1 {w : World} {base p bx : Nat} {lv ov tv : Value} {os : List RM} {c : Co} (h : CAt w base p lv ov tv os c) (hx : w.cell? ⟨bx, 0, none⟩ = some (.pointer (some ⟨p, 0, none⟩))) (hb : ¬ CF p lv ov tv bx) (hlen : c.log.length ≤ 300) (hl : c.out.length ≤ 100) (hd : c.dest.length ≤ 100) :
    Calls Try.prog 59 #[.int .i64 1, .pointer (some ⟨bx, 0, none⟩)] w (Tup0 (CUpd base p lv ov tv (c.campOne 1) w)) := by
  have HC := Lib.hid h
  obtain ⟨gn, gf⟩ := cell_of h.blk 22 (v := .bool (c.pr 1).votes) rfl
  have hne : bx ≠ p := fun e => hb (.inl e)
  have H1 := Lib.hid (h.put (c' := c.setPr 1 { c.pr 1 with votes := false }) (w' := w.setCell ⟨p, 22, none⟩ (.bool false)) (by rw [setCell_blk h.blk]; rfl) (Mod.cellOf p 22 _) rfl rfl rfl)
  have HX := Lib.hid (show (w.setCell ⟨p, 22, none⟩ (.bool false)).cell? ⟨bx, 0, none⟩ = some (.pointer (some ⟨p, 0, none⟩)) from box_keep hx (Mod.cellOf p 22 (.bool false)) hne)
  have HMS := Lib.hid (show Mod (CF p lv ov tv) w (w.setCell ⟨p, 22, none⟩ (.bool false)) from (Mod.cellOf p 22 _).mono (fun _ _ e => .inl e))
  have HE := Lib.hid (show c.campOne 1 = (c.setPr 1 { c.pr 1 with votes := false }).send ((1 : Nat) : Int) { mg0 1 with prev := (c.log.length : Int), pterm := lastT c.log } from rfl)
  obtain ⟨la, lc, hv, hsl, -⟩ := own_sl h.log
  subst hv
  have HSL := Lib.hid (H1.out.log)
  have HLM := Lib.hid (show c.log.length ≤ maxLen by unfold maxLen; omega)
  have HL := Lib.hid hl
  have HD := Lib.hid hd
  have HB := Lib.hid hb
  clear h hb hl hd hsl
  go_enter Try.func59, Try.ntmps59
  go_upto_region 1 with fail
  generalize w.setCell ⟨p, 22, none⟩ (.bool false) = Y at *
  clear gn gf hx
  refine wp_region_noPanic ?_
  refine wp_region_lim (CampS p bx (.slice la c.log.length lc)) (fun i => decide (i < 15)) (fun i => false) (by kernel_rfl) (by kernel_rfl) ⟨HX.out, H1.out.toCL.cells.1.2.2.2.1⟩ (fun HT hS0 => ?_)
  refine tkD HT 0 9 (v := ?_) ?_ ?_
  rotate_left
  · (intro w5 hSw; obtain ⟨q1, q2⟩ := hSw; go_simp; (try with_reducible rfl))
  try simp only [s1, s2, s3]
  refine tkD HT 1 10 (v := ?_) ?_ ?_
  rotate_left
  · (intro w5 hSw; obtain ⟨q1, q2⟩ := hSw; go_simp; (try with_reducible rfl))
  try simp only [s1, s2, s3]
  refine tkD HT 2 11 (v := ?_) ?_ ?_
  rotate_left
  · (intro w5 hSw; obtain ⟨q1, q2⟩ := hSw; go_simp; (try with_reducible rfl))
  try simp only [s1, s2, s3]
  refine tkD HT 3 12 (v := ?_) ?_ ?_
  rotate_left
  · (intro w5 hSw; obtain ⟨q1, q2⟩ := hSw; go_simp; (try with_reducible rfl))
  try simp only [s1, s2, s3]
  refine tkD HT 4 13 (v := ?_) ?_ ?_
  rotate_left
  · (intro w5 hSw; obtain ⟨q1, q2⟩ := hSw; go_simp; (try with_reducible rfl))
  try simp only [s1, s2, s3]
  refine tkD HT 5 14 (v := ?_) ?_ ?_
  rotate_left
  · (intro w5 hSw; obtain ⟨q1, q2⟩ := hSw; go_simp; (try with_reducible rfl))
  try simp only [s1, s2, s3]
  refine tkD HT 6 15 (v := ?_) ?_ ?_
  rotate_left
  · (intro w5 hSw; obtain ⟨q1, q2⟩ := hSw; go_simp; (try with_reducible rfl))
  try simp only [s1, s2, s3]
  refine tkD HT 7 16 (v := ?_) ?_ ?_
  rotate_left
  · (intro w5 hSw; obtain ⟨q1, q2⟩ := hSw; go_simp; (try with_reducible rfl))
  try simp only [s1, s2, s3]
  refine tkD HT 8 17 (v := ?_) ?_ ?_
  rotate_left
  · (intro w5 hSw; obtain ⟨q1, q2⟩ := hSw; go_simp; (try with_reducible rfl))
  try simp only [s1, s2, s3]
  refine tkD HT 9 18 (v := ?_) ?_ ?_
  rotate_left
  · (intro w5 hSw; obtain ⟨q1, q2⟩ := hSw; go_simp; (try with_reducible rfl))
  try simp only [s1, s2, s3]
  refine tkD HT 10 19 (v := ?_) ?_ ?_
  rotate_left
  · (intro w5 hSw; obtain ⟨q1, q2⟩ := hSw; go_simp; (try with_reducible rfl))
  try simp only [s1, s2, s3]
  refine tkD HT 11 20 (v := ?_) ?_ ?_
  rotate_left
  · (intro w5 hSw; obtain ⟨q1, q2⟩ := hSw; go_simp; (try with_reducible rfl))
  try simp only [s1, s2, s3]
  refine tkD HT 12 21 (v := ?_) ?_ ?_
  rotate_left
  · (intro w5 hSw; obtain ⟨q1, q2⟩ := hSw; go_simp; (try with_reducible rfl))
  try simp only [s1, s2, s3]
  refine tkS 13 (fun K5 hK => ?_)
  go_simp
  go_at_call 28
  refine (clast_len la lc c.log.length c.log rfl _ (ents_below (Sl.ents (sl_of_own HSL.out)) (Below.refl _ _).drew) HLM.out).mono ?_
  rintro e w6 ⟨rfl, rfl⟩
  dsimp only
  refine hK.out _ _ ⟨HX.out, H1.out.toCL.cells.1.2.2.2.1⟩ (fun hS1 => ?_)
  clear hK K5
  try simp only [Act.put, s1, s2, s3]
  refine tkD HT 14 23 (v := ?_) ?_ ?_
  rotate_left
  · (intro w5 hSw; obtain ⟨q1, q2⟩ := hSw; go_simp; (try with_reducible rfl))
  try simp only [s1, s2, s3]
  refine tkL 15 (fun K5 hK => ?_)
  go_simp
  go_at_call 57
  refine (send_len 1 ⟨none, 0, { mg0 1 with prev := (c.log.length : Int), pterm := lastT c.log }⟩ 0 rfl (H1.out.below (Below.refl _ _).drew) ⟨Sl.nil _, fun _ _ e => by cases e⟩ (by rw [os_len H1.out]; exact HL.out) HD.out).mono ?_
  rintro e w7 ⟨rfl, hU7⟩
  have HU7 := Lib.hid (CUpd.below (Below.refl _ Y).drew hU7)
  clear hU7
  dsimp only
  refine hK.out _ _ ?_
  clear hK K5
  try simp only [Act.put, s1, s2, s3]
  refine wpAnyM_done (by kernel_rfl) (NoPanic.normal ?_)
  go_wp2
  go_end0
  rw [HE.out]
  exact ⟨rfl, CUpd.then HMS.out (fun _ hk => .inl hk) HU7.out⟩
set_option linter.unusedSimpArgs false in
set_option linter.unusedVariables false in
set_option maxHeartbeats 8000000 in
set_option maxRecDepth 100000 in
theorem camp2 {w : World} {base p bx : Nat} {lv ov tv : Value} {os : List RM} {c : Co} (h : CAt w base p lv ov tv os c) (hx : w.cell? ⟨bx, 0, none⟩ = some (.pointer (some ⟨p, 0, none⟩))) (hb : ¬ CF p lv ov tv bx) (hlen : c.log.length ≤ 300) (hl : c.out.length ≤ 100) (hd : c.dest.length ≤ 100) :
    Calls Try.prog 59 #[.int .i64 2, .pointer (some ⟨bx, 0, none⟩)] w (Tup0 (CUpd base p lv ov tv (c.campOne 2) w)) := by
  have HC := Lib.hid h
  obtain ⟨gn, gf⟩ := cell_of h.blk 28 (v := .bool (c.pr 2).votes) rfl
  have hne : bx ≠ p := fun e => hb (.inl e)
  have H1 := Lib.hid (h.put (c' := c.setPr 2 { c.pr 2 with votes := false }) (w' := w.setCell ⟨p, 28, none⟩ (.bool false)) (by rw [setCell_blk h.blk]; rfl) (Mod.cellOf p 28 _) rfl rfl rfl)
  have HX := Lib.hid (show (w.setCell ⟨p, 28, none⟩ (.bool false)).cell? ⟨bx, 0, none⟩ = some (.pointer (some ⟨p, 0, none⟩)) from box_keep hx (Mod.cellOf p 28 (.bool false)) hne)
  have HMS := Lib.hid (show Mod (CF p lv ov tv) w (w.setCell ⟨p, 28, none⟩ (.bool false)) from (Mod.cellOf p 28 _).mono (fun _ _ e => .inl e))
  have HE := Lib.hid (show c.campOne 2 = (c.setPr 2 { c.pr 2 with votes := false }).send ((2 : Nat) : Int) { mg0 1 with prev := (c.log.length : Int), pterm := lastT c.log } from rfl)
  obtain ⟨la, lc, hv, hsl, -⟩ := own_sl h.log
  subst hv
  have HSL := Lib.hid (H1.out.log)
  have HLM := Lib.hid (show c.log.length ≤ maxLen by unfold maxLen; omega)
  have HL := Lib.hid hl
  have HD := Lib.hid hd
  have HB := Lib.hid hb
  clear h hb hl hd hsl
  go_enter Try.func59, Try.ntmps59
  go_upto_region 1 with fail
  generalize w.setCell ⟨p, 28, none⟩ (.bool false) = Y at *
  clear gn gf hx
  refine wp_region_noPanic ?_
  refine wp_region_lim (CampS p bx (.slice la c.log.length lc)) (fun i => decide (i < 15)) (fun i => false) (by kernel_rfl) (by kernel_rfl) ⟨HX.out, H1.out.toCL.cells.1.2.2.2.1⟩ (fun HT hS0 => ?_)
  refine tkD HT 0 9 (v := ?_) ?_ ?_
  rotate_left
  · (intro w5 hSw; obtain ⟨q1, q2⟩ := hSw; go_simp; (try with_reducible rfl))
  try simp only [s1, s2, s3]
  refine tkD HT 1 10 (v := ?_) ?_ ?_
  rotate_left
  · (intro w5 hSw; obtain ⟨q1, q2⟩ := hSw; go_simp; (try with_reducible rfl))
  try simp only [s1, s2, s3]
  refine tkD HT 2 11 (v := ?_) ?_ ?_
  rotate_left
  · (intro w5 hSw; obtain ⟨q1, q2⟩ := hSw; go_simp; (try with_reducible rfl))
  try simp only [s1, s2, s3]
  refine tkD HT 3 12 (v := ?_) ?_ ?_
  rotate_left
  · (intro w5 hSw; obtain ⟨q1, q2⟩ := hSw; go_simp; (try with_reducible rfl))
  try simp only [s1, s2, s3]
  refine tkD HT 4 13 (v := ?_) ?_ ?_
  rotate_left
  · (intro w5 hSw; obtain ⟨q1, q2⟩ := hSw; go_simp; (try with_reducible rfl))
  try simp only [s1, s2, s3]
  refine tkD HT 5 14 (v := ?_) ?_ ?_
  rotate_left
  · (intro w5 hSw; obtain ⟨q1, q2⟩ := hSw; go_simp; (try with_reducible rfl))
  try simp only [s1, s2, s3]
  refine tkD HT 6 15 (v := ?_) ?_ ?_
  rotate_left
  · (intro w5 hSw; obtain ⟨q1, q2⟩ := hSw; go_simp; (try with_reducible rfl))
  try simp only [s1, s2, s3]
  refine tkD HT 7 16 (v := ?_) ?_ ?_
  rotate_left
  · (intro w5 hSw; obtain ⟨q1, q2⟩ := hSw; go_simp; (try with_reducible rfl))
  try simp only [s1, s2, s3]
  refine tkD HT 8 17 (v := ?_) ?_ ?_
  rotate_left
  · (intro w5 hSw; obtain ⟨q1, q2⟩ := hSw; go_simp; (try with_reducible rfl))
  try simp only [s1, s2, s3]
  refine tkD HT 9 18 (v := ?_) ?_ ?_
  rotate_left
  · (intro w5 hSw; obtain ⟨q1, q2⟩ := hSw; go_simp; (try with_reducible rfl))
  try simp only [s1, s2, s3]
  refine tkD HT 10 19 (v := ?_) ?_ ?_
  rotate_left
  · (intro w5 hSw; obtain ⟨q1, q2⟩ := hSw; go_simp; (try with_reducible rfl))
  try simp only [s1, s2, s3]
  refine tkD HT 11 20 (v := ?_) ?_ ?_
  rotate_left
  · (intro w5 hSw; obtain ⟨q1, q2⟩ := hSw; go_simp; (try with_reducible rfl))
  try simp only [s1, s2, s3]
  refine tkD HT 12 21 (v := ?_) ?_ ?_
  rotate_left
  · (intro w5 hSw; obtain ⟨q1, q2⟩ := hSw; go_simp; (try with_reducible rfl))
  try simp only [s1, s2, s3]
  refine tkS 13 (fun K5 hK => ?_)
  go_simp
  go_at_call 28
  refine (clast_len la lc c.log.length c.log rfl _ (ents_below (Sl.ents (sl_of_own HSL.out)) (Below.refl _ _).drew) HLM.out).mono ?_
  rintro e w6 ⟨rfl, rfl⟩
  dsimp only
  refine hK.out _ _ ⟨HX.out, H1.out.toCL.cells.1.2.2.2.1⟩ (fun hS1 => ?_)
  clear hK K5
  try simp only [Act.put, s1, s2, s3]
  refine tkD HT 14 23 (v := ?_) ?_ ?_
  rotate_left
  · (intro w5 hSw; obtain ⟨q1, q2⟩ := hSw; go_simp; (try with_reducible rfl))
  try simp only [s1, s2, s3]
  refine tkL 15 (fun K5 hK => ?_)
  go_simp
  go_at_call 57
  refine (send_len 2 ⟨none, 0, { mg0 1 with prev := (c.log.length : Int), pterm := lastT c.log }⟩ 0 rfl (H1.out.below (Below.refl _ _).drew) ⟨Sl.nil _, fun _ _ e => by cases e⟩ (by rw [os_len H1.out]; exact HL.out) HD.out).mono ?_
  rintro e w7 ⟨rfl, hU7⟩
  have HU7 := Lib.hid (CUpd.below (Below.refl _ Y).drew hU7)
  clear hU7
  dsimp only
  refine hK.out _ _ ?_
  clear hK K5
  try simp only [Act.put, s1, s2, s3]
  refine wpAnyM_done (by kernel_rfl) (NoPanic.normal ?_)
  go_wp2
  go_end0
  rw [HE.out]
  exact ⟨rfl, CUpd.then HMS.out (fun _ hk => .inl hk) HU7.out⟩
theorem camp_any {w : World} {base p bx : Nat} {lv ov tv : Value} {os : List RM} {c : Co} (v : Nat) (hv : v < 3) (h : CAt w base p lv ov tv os c) (hx : w.cell? ⟨bx, 0, none⟩ = some (.pointer (some ⟨p, 0, none⟩))) (hb : ¬ CF p lv ov tv bx) (hlen : c.log.length ≤ 300) (hl : c.out.length ≤ 100) (hd : c.dest.length ≤ 100) :
    Calls Try.prog 59 #[.int .i64 (v : Int), .pointer (some ⟨bx, 0, none⟩)] w (Tup0 (CUpd base p lv ov tv (c.campOne v) w)) := by
  obtain rfl | rfl | rfl : v = 0 ∨ v = 1 ∨ v = 2 := by omega
  · exact camp0 h hx hb hlen hl hd
  · exact camp1 h hx hb hlen hl hd
  · exact camp2 h hx hb hlen hl hd
theorem camp_others {w : World} {base p bx : Nat} {lv ov tv : Value} {os : List RM} {c : Co} (h : CAt w base p lv ov tv os c) (hx : w.cell? ⟨bx, 0, none⟩ = some (.pointer (some ⟨p, 0, none⟩))) (hb : ¬ CF p lv ov tv bx) (hlen : c.log.length ≤ 300) (hl : c.out.length ≤ 90) (hd : c.dest.length ≤ 90) :
    Calls Try.prog 36 #[.pointer (some ⟨p, 0, none⟩), .func (.func 59) #[] #[.pointer (some ⟨bx, 0, none⟩)]] w (Tup0 (CUpd base p lv ov tv (Co.others Co.campOne c) w)) := by
  have hme : ∀ n, (part Co.campOne c n).me = c.me := part_keep (f := Co.campOne) (fun d => d.me) (fun _ _ => rfl) c
  have hlg : ∀ n, (part Co.campOne c n).log = c.log := part_keep (f := Co.campOne) (fun d => d.log) (fun _ _ => rfl) c
  have hol : ∀ n, (part Co.campOne c n).out.length ≤ c.out.length + n := part_grow (fun d => d.out.length) (fun d v => by simp [Co.campOne, Co.send, Co.setPr]) c
  have hdl : ∀ n, (part Co.campOne c n).dest.length ≤ c.dest.length + n := part_grow (fun d => d.dest.length) (fun d v => by simp [Co.campOne, Co.send, Co.setPr]) c
  rw [← part_3]
  refine others_camp (me := c.me) (.pointer (some ⟨bx, 0, none⟩)) (fun v w1 => CUpd base p lv ov tv (part Co.campOne c v) w w1) (fun v w1 hI => ?_) (fun v w1 hv he hI => ?_) (fun v w1 hv he hI => ?_) w (h.stay (Below.refl _ _))
  · obtain ⟨lv1, ov1, tv1, os1, h1, -, -⟩ := hI
    have := h1.toCL.cells.1.1
    rwa [hme] at this
  · rw [part_skip (by rw [hme]; exact he)]; exact hI
  · obtain ⟨lv1, ov1, tv1, os1, h1, m1, f1⟩ := hI
    rw [part_step (by rw [hme]; exact he)]
    have hxw := World.block_lt_of_cell? _ _ hx
    refine (camp_any v hv h1 (box_keep hx m1 hb) (fun hk => ?_) (by rw [hlg]; exact hlen) (by have := hol v; omega) (by have := hdl v; omega)).mono fun e w2 ⟨he, hu⟩ => ⟨he, CUpd.then m1 f1 hu⟩
    rcases f1 bx hk with d | d
    · exact hb d
    · simp at hxw; omega
end Go.Proofs.Ytcleaamjfjnkkaa
