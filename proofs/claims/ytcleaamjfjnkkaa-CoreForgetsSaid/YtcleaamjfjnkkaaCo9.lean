/- A tick. -/
import Derived.Test.YtcleaamjfjnkkaaCo8
namespace Go.Proofs.Ytcleaamjfjnkkaa
open Go.RowKit Go.Joins

abbrev NIL : Value := .slice none 0 0
/-- behind a call: what was sent is answered. -/
def OutP (base p : Nat) (lv : Value) (c' : Co) (w : World) (e : Ending) (w' : World) : Prop := ∃ lv' ov' tv' os', e = .returned ov' ∧ CAt w' base p lv' ov' tv' os' c' ∧ Mod (CF p lv NIL NIL) w w' ∧ ∀ k, CF p lv' ov' tv' k → CF p lv NIL NIL k ∨ w.heap.size ≤ k
theorem outP {base p : Nat} {lv ov2 : Value} {c' : Co} {w w' : World} {lv' ov' tv' : Value} {os' : List RM} (h : CAt w' base p lv' ov' tv' os' c') (he : ov2 = ov') (m : Mod (CF p lv NIL NIL) w w') (f : ∀ k, CF p lv' ov' tv' k → CF p lv NIL NIL k ∨ w.heap.size ≤ k) : OutP base p lv c' w (.returned ov2) w' := ⟨lv', ov', tv', os', by rw [he], h, m, f⟩
set_option maxRecDepth 100000 in
theorem answer_any {w : World} {base p : Nat} {lv ov tv : Value} {c : Co} (h : CL w base p lv ov tv c) : Calls Try.prog 42 #[.pointer (some ⟨p, 0, none⟩)] w (fun e w' => e = .returned ov ∧ w = w') := by
  have g := h.cells.1.2.2.2.2.2.2.2.2.2.2.2.1
  clear h
  go_enter Try.func42, Try.ntmps42
  go_wp2
  go_ret
  exact ⟨rfl, rfl⟩
theorem CUpd.outP {base p : Nat} {lv lv1 ov1 tv1 : Value} {c' : Co} {w w1 w' : World} (hm : Mod (CF p lv NIL NIL) w w1) (hf : ∀ k, CF p lv1 ov1 tv1 k → CF p lv NIL NIL k ∨ w.heap.size ≤ k) (h : CUpd base p lv1 ov1 tv1 c' w1 w') :
    ∃ lv' ov' tv' os', CAt w' base p lv' ov' tv' os' c' ∧ Mod (CF p lv NIL NIL) w w' ∧ ∀ k, CF p lv' ov' tv' k → CF p lv NIL NIL k ∨ w.heap.size ≤ k := by
  obtain ⟨a, b, c, d, h1, h2, h3⟩ := CUpd.then hm hf h
  exact ⟨a, b, c, d, h1, h2, h3⟩
theorem upd_mod {base p : Nat} {lv ov tv : Value} {c' : Co} {w w' : World} (h : CUpd base p lv ov tv c' w w') : Mod (CF p lv ov tv) w w' := by obtain ⟨_, _, _, _, _, h, _⟩ := h; exact h
def TicS (p bx : Nat) (c : Co) (w' : World) : Prop := (w'.cell? ⟨bx, 0, none⟩ = some (.pointer (some ⟨p, 0, none⟩)) ∧ w'.cell? ⟨p, 1, none⟩ = some (.int .u64 c.term) ∧ w'.cell? ⟨p, 7, none⟩ = some (.int .i64 c.heard)) ∧ w'.cell? ⟨p, 8, none⟩ = some (.int .i64 c.since) ∧ w'.cell? ⟨p, 9, none⟩ = some (.int .i64 c.timeout)
theorem CL.ticS {w : World} {base p bx : Nat} {lv ov tv : Value} {c : Co} (h : CL w base p lv ov tv c) (hx : w.cell? ⟨bx, 0, none⟩ = some (.pointer (some ⟨p, 0, none⟩))) : TicS p bx c w :=
  ⟨⟨hx, h.cells.1.2.1, h.cells.1.2.2.2.2.2.2.2.1⟩, h.cells.1.2.2.2.2.2.2.2.2.1, h.cells.1.2.2.2.2.2.2.2.2.2.1⟩
set_option linter.unusedSimpArgs false in
set_option linter.unusedVariables false in
set_option maxHeartbeats 8000000 in
set_option maxRecDepth 100000 in
theorem tick_lead {w : World} {base p : Nat} {lv ov tv : Value} {c : Co} (clock draw : Int) (hcl : I64 clock) (hdr : I64 draw) (h : CL w base p lv ov tv c) (ok : Ok c) (hr : c.role = 2) :
    Calls Try.prog 11 #[.pointer (some ⟨p, 0, none⟩), .int .i64 clock, .int .i64 draw] w (OutP base p lv (c.tick clock draw) w) := by
  have mixed : Try.prog.follows .mixedOrders = true := by kernel_rfl
  have HW := Lib.hid (bel1 w (.cells #[.pointer (some ⟨p, 0, none⟩)] 31))
  have hbx : (w.alloc (.cells #[.pointer (some ⟨p, 0, none⟩)] 31)).cell? ⟨w.heap.size, 0, none⟩ = some (.pointer (some ⟨p, 0, none⟩)) := (cell_of (heap_alloc_new w _) 0 rfl).1
  have hxo := fun o => h.below (bel1 w o)
  have HB := Lib.hid (begin_any clock (hxo (.cells #[.pointer (some ⟨p, 0, none⟩)] 31)))
  have HBX := Lib.hid hbx
  have HNB := Lib.hid (show w.heap.size ≠ p ∧ ¬ CF p lv NIL NIL w.heap.size from ⟨by have := h.lt.1; omega, by
    rintro (e | e | e | e)
    · have := h.lt.1; omega
    · have := (h.lt.2 _ e).2; omega
    · cases e
    · cases e⟩)
  have HR := Lib.hid (show 0 ≤ (c.begin clock).out.length ∧ (c.begin clock).out.length = 0 ∧ (c.begin clock).dest.length = 0 from ⟨Nat.zero_le _, rfl, rfl⟩)
  have HOK := Lib.hid ok
  have HC0 := Lib.hid (Mod.bel (S := CF p lv NIL NIL) HW.out)
  have HTK := Lib.hid (show c.tick clock draw = Co.others Co.tickOne (c.begin clock) by unfold Co.tick; rw [if_pos (show (c.begin clock).role = 2 from hr)])
  have hb : (c.begin clock).role = 2 := hr
  clear h ok hbx hxo hr
  go_enter Try.func11, Try.ntmps11
  go_wp2_with (first
    | (go_at_call 35; refine HB.out.mono ?_; rintro e w1 ⟨rfl, hC, hM⟩; have C1 := Lib.hid hC; have M1 := Lib.hid (HC0.out.trans (hM.mono (fun _ _ e => Or.inl e))); have X1 := Lib.hid (box_keep HBX.out hM HNB.out.1); have gx := X1.out; obtain ⟨g1, g5⟩ := (And.intro hC.toCL.cells.1.2.1 hC.toCL.cells.1.2.2.2.2.2.1); rw [hb] at g5; clear hC hM)
    | (go_at_call 36; refine (tick_others C1.out X1.out HNB.out.2 (fun v hv => (HOK.out.pr v hv).2.1) (fun v hv => ⟨(HOK.out.led hb v hv).1, (HOK.out.led hb v hv).2.1⟩) HOK.out.log (by have := HR.out; omega) (by have := HR.out; omega)).mono ?_; rintro e w2 ⟨rfl, hU⟩; obtain ⟨lv9, ov9, tv9, os9, hC9, hM9, hF9⟩ := CUpd.outP M1.out (fun _ hk => .inl hk) hU; have gx9 : w2.cell? ⟨w.heap.size, 0, none⟩ = some (.pointer (some ⟨p, 0, none⟩)) := box_keep X1.out (upd_mod hU) HNB.out.2)
    | (go_at_call 42; refine (answer_any hC9.toCL).mono ?_; rintro e w9 ⟨rfl, rfl⟩))
  go_ret
  rw [HTK.out]
  exact outP hC9 rfl hM9 hF9
set_option linter.unusedSimpArgs false in
set_option linter.unusedVariables false in
set_option maxHeartbeats 8000000 in
set_option maxRecDepth 100000 in
theorem tick_early {w : World} {base p : Nat} {lv ov tv : Value} {c : Co} (clock draw : Int) (hcl : I64 clock) (hdr : I64 draw) (h : CL w base p lv ov tv c) (ok : Ok c) (hr : c.role ≠ 2) (hp : (c.begin clock).passed (c.begin clock).since (c.begin clock).timeout = false) :
    Calls Try.prog 11 #[.pointer (some ⟨p, 0, none⟩), .int .i64 clock, .int .i64 draw] w (OutP base p lv (c.tick clock draw) w) := by
  have mixed : Try.prog.follows .mixedOrders = true := by kernel_rfl
  have HW := Lib.hid (bel1 w (.cells #[.pointer (some ⟨p, 0, none⟩)] 31))
  have hbx : (w.alloc (.cells #[.pointer (some ⟨p, 0, none⟩)] 31)).cell? ⟨w.heap.size, 0, none⟩ = some (.pointer (some ⟨p, 0, none⟩)) := (cell_of (heap_alloc_new w _) 0 rfl).1
  have hxo := fun o => h.below (bel1 w o)
  have HB := Lib.hid (begin_any clock (hxo (.cells #[.pointer (some ⟨p, 0, none⟩)] 31)))
  have HBX := Lib.hid hbx
  have HNB := Lib.hid (show w.heap.size ≠ p ∧ ¬ CF p lv NIL NIL w.heap.size from ⟨by have := h.lt.1; omega, by
    rintro (e | e | e | e)
    · have := h.lt.1; omega
    · have := (h.lt.2 _ e).2; omega
    · cases e
    · cases e⟩)
  have HR := Lib.hid (show 0 ≤ (c.begin clock).out.length ∧ (c.begin clock).out.length = 0 ∧ (c.begin clock).dest.length = 0 from ⟨Nat.zero_le _, rfl, rfl⟩)
  have HOK := Lib.hid ok
  have HC0 := Lib.hid (Mod.bel (S := CF p lv NIL NIL) HW.out)
  have HTK := Lib.hid (show c.tick clock draw = c.begin clock by unfold Co.tick; rw [if_neg (show ¬ (c.begin clock).role = 2 from hr)]; rw [hp]; rfl)
  have hb : ((c.begin clock).role == 2) = false := by have h2 : (c.begin clock).role ≠ 2 := hr; simpa using h2
  have HP := Lib.hid (fun (n : Nat) (W : World) (hC : CL W base p lv NIL NIL (c.begin clock)) => passed_any (w := W.drewN n) (c.begin clock).since (c.begin clock).timeout (hC.below (below_drewN' _ n)) HOK.out.since (by have := HOK.out.timeout.1; show 0 ≤ c.timeout; omega) (by have := HOK.out.timeout.2; show c.timeout ≤ 100; omega))
  rw [hp] at HP
  have HPQ := Lib.hid (fun (n : Nat) (W : World) (hC : CL W base p lv NIL NIL (c.begin clock)) => SameB.quiet (HP.out n W hC))
  clear h ok hbx hxo hr hp
  go_enter Try.func11, Try.ntmps11
  go_upto_region 6 with (first
    | (go_at_call 35; refine HB.out.mono ?_; rintro e w1 ⟨rfl, hC, hM⟩; have C1 := Lib.hid hC; have M1 := Lib.hid (HC0.out.trans (hM.mono (fun _ _ e => Or.inl e))); have X1 := Lib.hid (box_keep HBX.out hM HNB.out.1); have gx := X1.out; obtain ⟨g1, g5⟩ := (And.intro hC.toCL.cells.1.2.1 hC.toCL.cells.1.2.2.2.2.2.1); clear hC hM))
  obtain ⟨g7, g8, g9⟩ := (And.intro C1.out.toCL.cells.1.2.2.2.2.2.2.2.1 (And.intro C1.out.toCL.cells.1.2.2.2.2.2.2.2.2.1 C1.out.toCL.cells.1.2.2.2.2.2.2.2.2.2.1))
  go_quiet ((go_at_call 38; exact HPQ.out _ _ C1.out.toCL))
  have hC9 := C1.out.below (below_drewN' w1 nq)
  go_wp2_with (go_at_call 42; refine (answer_any hC9.toCL).mono ?_; rintro e w9 ⟨rfl, rfl⟩)
  go_ret
  rw [HTK.out]
  exact outP hC9 rfl (M1.out.trans (Mod.bel (below_drewN' w1 nq))) (fun k hk => .inl hk)
set_option linter.unusedSimpArgs false in
set_option linter.unusedVariables false in
set_option maxHeartbeats 8000000 in
set_option maxRecDepth 100000 in
theorem tick_waits {w : World} {base p : Nat} {lv ov tv : Value} {c : Co} (clock draw : Int) (hcl : I64 clock) (hdr : I64 draw) (h : CL w base p lv ov tv c) (ok : Ok c) (hr : c.role ≠ 2) (hp : (c.begin clock).passed (c.begin clock).since (c.begin clock).timeout = true) (hw : waitsS c.heard clock = true) :
    Calls Try.prog 11 #[.pointer (some ⟨p, 0, none⟩), .int .i64 clock, .int .i64 draw] w (OutP base p lv (c.tick clock draw) w) := by
  have mixed : Try.prog.follows .mixedOrders = true := by kernel_rfl
  have HW := Lib.hid (bel1 w (.cells #[.pointer (some ⟨p, 0, none⟩)] 31))
  have hbx : (w.alloc (.cells #[.pointer (some ⟨p, 0, none⟩)] 31)).cell? ⟨w.heap.size, 0, none⟩ = some (.pointer (some ⟨p, 0, none⟩)) := (cell_of (heap_alloc_new w _) 0 rfl).1
  have hxo := fun o => h.below (bel1 w o)
  have HB := Lib.hid (begin_any clock (hxo (.cells #[.pointer (some ⟨p, 0, none⟩)] 31)))
  have HBX := Lib.hid hbx
  have HNB := Lib.hid (show w.heap.size ≠ p ∧ ¬ CF p lv NIL NIL w.heap.size from ⟨by have := h.lt.1; omega, by
    rintro (e | e | e | e)
    · have := h.lt.1; omega
    · have := (h.lt.2 _ e).2; omega
    · cases e
    · cases e⟩)
  have HR := Lib.hid (show 0 ≤ (c.begin clock).out.length ∧ (c.begin clock).out.length = 0 ∧ (c.begin clock).dest.length = 0 from ⟨Nat.zero_le _, rfl, rfl⟩)
  have HOK := Lib.hid ok
  have HC0 := Lib.hid (Mod.bel (S := CF p lv NIL NIL) HW.out)
  have HTK := Lib.hid (show c.tick clock draw = c.begin clock by unfold Co.tick; rw [if_neg (show ¬ (c.begin clock).role = 2 from hr)]; rw [hp, show waitsS (c.begin clock).heard clock = true from hw]; rfl)
  have hb : ((c.begin clock).role == 2) = false := by have h2 : (c.begin clock).role ≠ 2 := hr; simpa using h2
  have HP := Lib.hid (fun (n : Nat) (W : World) (hC : CL W base p lv NIL NIL (c.begin clock)) => passed_any (w := W.drewN n) (c.begin clock).since (c.begin clock).timeout (hC.below (below_drewN' _ n)) HOK.out.since (by have := HOK.out.timeout.1; show 0 ≤ c.timeout; omega) (by have := HOK.out.timeout.2; show c.timeout ≤ 100; omega))
  have HWT := Lib.hid (fun W => waits_any c.heard clock W HOK.out.heard.1 HOK.out.heard.2)
  rw [hp] at HP
  have HPP : Hid (∀ (n : Nat) (W : World), CL W base p lv NIL NIL (c.begin clock) → Calls Try.prog 38 #[.pointer (some ⟨p, 0, none⟩), .int .i64 (c.begin clock).since, .int .i64 (c.begin clock).timeout] (W.drewN n) (SameB true (W.drewN n))) := HP
  rw [hw] at HWT
  clear h ok hbx hxo hr hp hw
  go_enter Try.func11, Try.ntmps11
  go_upto_region 6 with (first
    | (go_at_call 35; refine HB.out.mono ?_; rintro e w1 ⟨rfl, hC, hM⟩; have C1 := Lib.hid hC; have M1 := Lib.hid (HC0.out.trans (hM.mono (fun _ _ e => Or.inl e))); have X1 := Lib.hid (box_keep HBX.out hM HNB.out.1); have gx := X1.out; obtain ⟨g1, g5⟩ := (And.intro hC.toCL.cells.1.2.1 hC.toCL.cells.1.2.2.2.2.2.1); clear hC hM))
  obtain ⟨Y, hY⟩ : ∃ Y, Y = w1 := ⟨_, rfl⟩
  subst hY
  refine wp_region_noPanic ?_
  refine wp_region_lim (TicS p w.heap.size (c.begin clock)) (fun i => decide (i < 27)) (fun i => false) (by kernel_rfl) (by kernel_rfl) ((C1.out.toCL.below (Below.refl _ _).drew).ticS (keepc' X1.out (Below.refl _ _).drew)) (fun HT hS0 => ?_)
  refine tkD HT 0 22 (v := ?_) ?_ ?_
  rotate_left
  · (intro w5 hSw; obtain ⟨⟨q1, q2, q3⟩, q4, q5⟩ := hSw; go_simp; (try with_reducible rfl))
  try simp only [s1, s2, s3]
  refine tkD HT 1 23 (v := ?_) ?_ ?_
  rotate_left
  · (intro w5 hSw; obtain ⟨⟨q1, q2, q3⟩, q4, q5⟩ := hSw; go_simp; (try with_reducible rfl))
  try simp only [s1, s2, s3]
  refine tkD HT 2 24 (v := ?_) ?_ ?_
  rotate_left
  · (intro w5 hSw; obtain ⟨⟨q1, q2, q3⟩, q4, q5⟩ := hSw; go_simp; (try with_reducible rfl))
  try simp only [s1, s2, s3]
  refine tkD HT 3 25 (v := ?_) ?_ ?_
  rotate_left
  · (intro w5 hSw; obtain ⟨⟨q1, q2, q3⟩, q4, q5⟩ := hSw; go_simp; (try with_reducible rfl))
  try simp only [s1, s2, s3]
  refine tkD HT 4 26 (v := ?_) ?_ ?_
  rotate_left
  · (intro w5 hSw; obtain ⟨⟨q1, q2, q3⟩, q4, q5⟩ := hSw; go_simp; (try with_reducible rfl))
  try simp only [s1, s2, s3]
  refine tkD HT 5 27 (v := ?_) ?_ ?_
  rotate_left
  · (intro w5 hSw; obtain ⟨⟨q1, q2, q3⟩, q4, q5⟩ := hSw; go_simp; (try with_reducible rfl))
  try simp only [s1, s2, s3]
  refine tkD HT 6 28 (v := ?_) ?_ ?_
  rotate_left
  · (intro w5 hSw; obtain ⟨⟨q1, q2, q3⟩, q4, q5⟩ := hSw; go_simp; (try with_reducible rfl))
  try simp only [s1, s2, s3]
  refine tkD HT 7 29 (v := ?_) ?_ ?_
  rotate_left
  · (intro w5 hSw; obtain ⟨⟨q1, q2, q3⟩, q4, q5⟩ := hSw; go_simp; (try with_reducible rfl))
  try simp only [s1, s2, s3]
  refine tkD HT 8 30 (v := ?_) ?_ ?_
  rotate_left
  · (intro w5 hSw; obtain ⟨⟨q1, q2, q3⟩, q4, q5⟩ := hSw; go_simp; (try with_reducible rfl))
  try simp only [s1, s2, s3]
  refine tkS 9 (fun K5 hK => ?_)
  go_simp
  go_at_call 38
  refine (HP.out 1 _ C1.out.toCL).mono ?_
  rintro e w6 ⟨rfl, rfl⟩
  dsimp only
  refine hK.out _ _ ((C1.out.toCL.below (Below.refl _ _).drew).ticS (keepc' X1.out (Below.refl _ _).drew)) (fun hS1 => ?_)
  clear hK K5
  try simp only [Act.put, s1, s2, s3]
  refine tkD HT 10 32 (v := ?_) ?_ ?_
  rotate_left
  · (intro w5 hSw; obtain ⟨⟨q1, q2, q3⟩, q4, q5⟩ := hSw; go_simp; (try with_reducible rfl))
  try simp only [s1, s2, s3]
  refine tkD HT 11 33 (v := ?_) ?_ ?_
  rotate_left
  · (intro w5 hSw; obtain ⟨⟨q1, q2, q3⟩, q4, q5⟩ := hSw; go_simp; (try with_reducible rfl))
  try simp only [s1, s2, s3]
  refine tkD HT 12 34 (v := ?_) ?_ ?_
  rotate_left
  · (intro w5 hSw; obtain ⟨⟨q1, q2, q3⟩, q4, q5⟩ := hSw; go_simp; (try with_reducible rfl))
  try simp only [s1, s2, s3]
  refine tkD HT 13 35 (v := ?_) ?_ ?_
  rotate_left
  · (intro w5 hSw; obtain ⟨⟨q1, q2, q3⟩, q4, q5⟩ := hSw; go_simp; (try with_reducible rfl))
  try simp only [s1, s2, s3]
  refine tkD HT 14 36 (v := ?_) ?_ ?_
  rotate_left
  · (intro w5 hSw; obtain ⟨⟨q1, q2, q3⟩, q4, q5⟩ := hSw; go_simp; (try with_reducible rfl))
  try simp only [s1, s2, s3]
  refine tkD HT 15 37 (v := ?_) ?_ ?_
  rotate_left
  · (intro w5 hSw; obtain ⟨⟨q1, q2, q3⟩, q4, q5⟩ := hSw; go_simp; (try with_reducible rfl))
  try simp only [s1, s2, s3]
  refine tkS 16 (fun K5 hK => ?_)
  go_simp
  go_at_call 40
  refine (HWT.out _).mono ?_
  rintro e w6 ⟨rfl, hb6⟩
  have HB6 := Lib.hid (grew_trans (Below.refl _ Y).drew hb6)
  clear hb6
  dsimp only
  refine hK.out _ _ ((C1.out.toCL.below HB6.out).ticS (keepc' X1.out HB6.out)) (fun hS1 => ?_)
  clear hK K5
  try simp only [Act.put, s1, s2, s3]
  refine tkD HT 17 39 (v := ?_) ?_ ?_
  rotate_left
  · (intro w5 hSw; obtain ⟨⟨q1, q2, q3⟩, q4, q5⟩ := hSw; go_simp; (try with_reducible rfl))
  try simp only [s1, s2, s3]
  refine tkD HT 18 40 (v := ?_) ?_ ?_
  rotate_left
  · (intro w5 hSw; obtain ⟨⟨q1, q2, q3⟩, q4, q5⟩ := hSw; go_simp; (try with_reducible rfl))
  try simp only [s1, s2, s3]
  refine tkD HT 19 41 (v := ?_) ?_ ?_
  rotate_left
  · (intro w5 hSw; obtain ⟨⟨q1, q2, q3⟩, q4, q5⟩ := hSw; go_simp; (try with_reducible rfl))
  try simp only [s1, s2, s3]
  refine tkN HT 20 42 ?_
  try simp only [s1, s2, s3]
  refine tkN HT 21 43 ?_
  try simp only [s1, s2, s3]
  refine tkN HT 22 44 ?_
  try simp only [s1, s2, s3]
  refine tkN HT 23 45 ?_
  try simp only [s1, s2, s3]
  refine tkN HT 24 46 ?_
  try simp only [s1, s2, s3]
  refine tkN HT 25 47 ?_
  try simp only [s1, s2, s3]
  refine tkD HT 26 48 (v := ?_) ?_ ?_
  rotate_left
  · (intro w5 hSw; obtain ⟨⟨q1, q2, q3⟩, q4, q5⟩ := hSw; go_simp; (try with_reducible rfl))
  try simp only [s1, s2, s3]
  refine tkL 27 (fun K5 hK => ?_)
  go_simp
  refine hK.out _ _ ?_
  clear hK K5
  try simp only [Act.put, s1, s2, s3]
  refine wpAnyM_done (by kernel_rfl) (NoPanic.normal ?_)
  have hC9 := C1.out.below HB6.out
  have hxx := keepc' X1.out HB6.out
  go_wp2_with (go_at_call 42; refine (answer_any hC9.toCL).mono ?_; rintro e w9 ⟨rfl, rfl⟩)
  go_ret
  rw [HTK.out]
  exact outP hC9 rfl (M1.out.trans (Mod.bel HB6.out)) (fun k hk => .inl hk)
set_option linter.unusedSimpArgs false in
set_option linter.unusedVariables false in
set_option maxHeartbeats 8000000 in
set_option maxRecDepth 100000 in
theorem tick_last {w : World} {base p : Nat} {lv ov tv : Value} {c : Co} (clock draw : Int) (hcl : I64 clock) (hdr : I64 draw) (h : CL w base p lv ov tv c) (ok : Ok c) (hr : c.role ≠ 2) (hp : (c.begin clock).passed (c.begin clock).since (c.begin clock).timeout = true) (hw : waitsS c.heard clock = false) (ht : ¬ c.term < 18446744073709551615) :
    Calls Try.prog 11 #[.pointer (some ⟨p, 0, none⟩), .int .i64 clock, .int .i64 draw] w (OutP base p lv (c.tick clock draw) w) := by
  have mixed : Try.prog.follows .mixedOrders = true := by kernel_rfl
  have HW := Lib.hid (bel1 w (.cells #[.pointer (some ⟨p, 0, none⟩)] 31))
  have hbx : (w.alloc (.cells #[.pointer (some ⟨p, 0, none⟩)] 31)).cell? ⟨w.heap.size, 0, none⟩ = some (.pointer (some ⟨p, 0, none⟩)) := (cell_of (heap_alloc_new w _) 0 rfl).1
  have hxo := fun o => h.below (bel1 w o)
  have HB := Lib.hid (begin_any clock (hxo (.cells #[.pointer (some ⟨p, 0, none⟩)] 31)))
  have HBX := Lib.hid hbx
  have HNB := Lib.hid (show w.heap.size ≠ p ∧ ¬ CF p lv NIL NIL w.heap.size from ⟨by have := h.lt.1; omega, by
    rintro (e | e | e | e)
    · have := h.lt.1; omega
    · have := (h.lt.2 _ e).2; omega
    · cases e
    · cases e⟩)
  have HR := Lib.hid (show 0 ≤ (c.begin clock).out.length ∧ (c.begin clock).out.length = 0 ∧ (c.begin clock).dest.length = 0 from ⟨Nat.zero_le _, rfl, rfl⟩)
  have HOK := Lib.hid ok
  have HC0 := Lib.hid (Mod.bel (S := CF p lv NIL NIL) HW.out)
  have HTK := Lib.hid (show c.tick clock draw = c.begin clock by unfold Co.tick; rw [if_neg (show ¬ (c.begin clock).role = 2 from hr)]; rw [hp, show waitsS (c.begin clock).heard clock = false from hw, show decide ((c.begin clock).term < 18446744073709551615) = false from decide_eq_false ht]; rfl)
  have htb : decide ((c.begin clock).term < 18446744073709551615) = false := decide_eq_false ht
  have hti : 18446744073709551615 ≤ (c.begin clock).term := by show 18446744073709551615 ≤ c.term; omega
  have hb : ((c.begin clock).role == 2) = false := by have h2 : (c.begin clock).role ≠ 2 := hr; simpa using h2
  have HP := Lib.hid (fun (n : Nat) (W : World) (hC : CL W base p lv NIL NIL (c.begin clock)) => passed_any (w := W.drewN n) (c.begin clock).since (c.begin clock).timeout (hC.below (below_drewN' _ n)) HOK.out.since (by have := HOK.out.timeout.1; show 0 ≤ c.timeout; omega) (by have := HOK.out.timeout.2; show c.timeout ≤ 100; omega))
  have HWT := Lib.hid (fun W => waits_any c.heard clock W HOK.out.heard.1 HOK.out.heard.2)
  rw [hp] at HP
  have HPP : Hid (∀ (n : Nat) (W : World), CL W base p lv NIL NIL (c.begin clock) → Calls Try.prog 38 #[.pointer (some ⟨p, 0, none⟩), .int .i64 (c.begin clock).since, .int .i64 (c.begin clock).timeout] (W.drewN n) (SameB true (W.drewN n))) := HP
  rw [hw] at HWT
  clear h ok hbx hxo hr hp hw
  go_enter Try.func11, Try.ntmps11
  go_upto_region 6 with (first
    | (go_at_call 35; refine HB.out.mono ?_; rintro e w1 ⟨rfl, hC, hM⟩; have C1 := Lib.hid hC; have M1 := Lib.hid (HC0.out.trans (hM.mono (fun _ _ e => Or.inl e))); have X1 := Lib.hid (box_keep HBX.out hM HNB.out.1); have gx := X1.out; obtain ⟨g1, g5⟩ := (And.intro hC.toCL.cells.1.2.1 hC.toCL.cells.1.2.2.2.2.2.1); clear hC hM))
  obtain ⟨Y, hY⟩ : ∃ Y, Y = w1 := ⟨_, rfl⟩
  subst hY
  refine wp_region_noPanic ?_
  refine wp_region_lim (TicS p w.heap.size (c.begin clock)) (fun i => decide (i < 27)) (fun i => false) (by kernel_rfl) (by kernel_rfl) ((C1.out.toCL.below (Below.refl _ _).drew).ticS (keepc' X1.out (Below.refl _ _).drew)) (fun HT hS0 => ?_)
  refine tkD HT 0 22 (v := ?_) ?_ ?_
  rotate_left
  · (intro w5 hSw; obtain ⟨⟨q1, q2, q3⟩, q4, q5⟩ := hSw; go_simp; (try with_reducible rfl))
  try simp only [s1, s2, s3]
  refine tkD HT 1 23 (v := ?_) ?_ ?_
  rotate_left
  · (intro w5 hSw; obtain ⟨⟨q1, q2, q3⟩, q4, q5⟩ := hSw; go_simp; (try with_reducible rfl))
  try simp only [s1, s2, s3]
  refine tkD HT 2 24 (v := ?_) ?_ ?_
  rotate_left
  · (intro w5 hSw; obtain ⟨⟨q1, q2, q3⟩, q4, q5⟩ := hSw; go_simp; (try with_reducible rfl))
  try simp only [s1, s2, s3]
  refine tkD HT 3 25 (v := ?_) ?_ ?_
  rotate_left
  · (intro w5 hSw; obtain ⟨⟨q1, q2, q3⟩, q4, q5⟩ := hSw; go_simp; (try with_reducible rfl))
  try simp only [s1, s2, s3]
  refine tkD HT 4 26 (v := ?_) ?_ ?_
  rotate_left
  · (intro w5 hSw; obtain ⟨⟨q1, q2, q3⟩, q4, q5⟩ := hSw; go_simp; (try with_reducible rfl))
  try simp only [s1, s2, s3]
  refine tkD HT 5 27 (v := ?_) ?_ ?_
  rotate_left
  · (intro w5 hSw; obtain ⟨⟨q1, q2, q3⟩, q4, q5⟩ := hSw; go_simp; (try with_reducible rfl))
  try simp only [s1, s2, s3]
  refine tkD HT 6 28 (v := ?_) ?_ ?_
  rotate_left
  · (intro w5 hSw; obtain ⟨⟨q1, q2, q3⟩, q4, q5⟩ := hSw; go_simp; (try with_reducible rfl))
  try simp only [s1, s2, s3]
  refine tkD HT 7 29 (v := ?_) ?_ ?_
  rotate_left
  · (intro w5 hSw; obtain ⟨⟨q1, q2, q3⟩, q4, q5⟩ := hSw; go_simp; (try with_reducible rfl))
  try simp only [s1, s2, s3]
  refine tkD HT 8 30 (v := ?_) ?_ ?_
  rotate_left
  · (intro w5 hSw; obtain ⟨⟨q1, q2, q3⟩, q4, q5⟩ := hSw; go_simp; (try with_reducible rfl))
  try simp only [s1, s2, s3]
  refine tkS 9 (fun K5 hK => ?_)
  go_simp
  go_at_call 38
  refine (HP.out 1 _ C1.out.toCL).mono ?_
  rintro e w6 ⟨rfl, rfl⟩
  dsimp only
  refine hK.out _ _ ((C1.out.toCL.below (Below.refl _ _).drew).ticS (keepc' X1.out (Below.refl _ _).drew)) (fun hS1 => ?_)
  clear hK K5
  try simp only [Act.put, s1, s2, s3]
  refine tkD HT 10 32 (v := ?_) ?_ ?_
  rotate_left
  · (intro w5 hSw; obtain ⟨⟨q1, q2, q3⟩, q4, q5⟩ := hSw; go_simp; (try with_reducible rfl))
  try simp only [s1, s2, s3]
  refine tkD HT 11 33 (v := ?_) ?_ ?_
  rotate_left
  · (intro w5 hSw; obtain ⟨⟨q1, q2, q3⟩, q4, q5⟩ := hSw; go_simp; (try with_reducible rfl))
  try simp only [s1, s2, s3]
  refine tkD HT 12 34 (v := ?_) ?_ ?_
  rotate_left
  · (intro w5 hSw; obtain ⟨⟨q1, q2, q3⟩, q4, q5⟩ := hSw; go_simp; (try with_reducible rfl))
  try simp only [s1, s2, s3]
  refine tkD HT 13 35 (v := ?_) ?_ ?_
  rotate_left
  · (intro w5 hSw; obtain ⟨⟨q1, q2, q3⟩, q4, q5⟩ := hSw; go_simp; (try with_reducible rfl))
  try simp only [s1, s2, s3]
  refine tkD HT 14 36 (v := ?_) ?_ ?_
  rotate_left
  · (intro w5 hSw; obtain ⟨⟨q1, q2, q3⟩, q4, q5⟩ := hSw; go_simp; (try with_reducible rfl))
  try simp only [s1, s2, s3]
  refine tkD HT 15 37 (v := ?_) ?_ ?_
  rotate_left
  · (intro w5 hSw; obtain ⟨⟨q1, q2, q3⟩, q4, q5⟩ := hSw; go_simp; (try with_reducible rfl))
  try simp only [s1, s2, s3]
  refine tkS 16 (fun K5 hK => ?_)
  go_simp
  go_at_call 40
  refine (HWT.out _).mono ?_
  rintro e w6 ⟨rfl, hb6⟩
  have HB6 := Lib.hid (grew_trans (Below.refl _ Y).drew hb6)
  clear hb6
  dsimp only
  refine hK.out _ _ ((C1.out.toCL.below HB6.out).ticS (keepc' X1.out HB6.out)) (fun hS1 => ?_)
  clear hK K5
  try simp only [Act.put, s1, s2, s3]
  refine tkD HT 17 39 (v := ?_) ?_ ?_
  rotate_left
  · (intro w5 hSw; obtain ⟨⟨q1, q2, q3⟩, q4, q5⟩ := hSw; go_simp; (try with_reducible rfl))
  try simp only [s1, s2, s3]
  refine tkD HT 18 40 (v := ?_) ?_ ?_
  rotate_left
  · (intro w5 hSw; obtain ⟨⟨q1, q2, q3⟩, q4, q5⟩ := hSw; go_simp; (try with_reducible rfl))
  try simp only [s1, s2, s3]
  refine tkD HT 19 41 (v := ?_) ?_ ?_
  rotate_left
  · (intro w5 hSw; obtain ⟨⟨q1, q2, q3⟩, q4, q5⟩ := hSw; go_simp; (try with_reducible rfl))
  try simp only [s1, s2, s3]
  refine tkD HT 20 42 (v := ?_) ?_ ?_
  rotate_left
  · (intro w5 hSw; obtain ⟨⟨q1, q2, q3⟩, q4, q5⟩ := hSw; go_simp; (try with_reducible rfl))
  try simp only [s1, s2, s3]
  refine tkD HT 21 43 (v := ?_) ?_ ?_
  rotate_left
  · (intro w5 hSw; obtain ⟨⟨q1, q2, q3⟩, q4, q5⟩ := hSw; go_simp; (try with_reducible rfl))
  try simp only [s1, s2, s3]
  refine tkD HT 22 44 (v := ?_) ?_ ?_
  rotate_left
  · (intro w5 hSw; obtain ⟨⟨q1, q2, q3⟩, q4, q5⟩ := hSw; go_simp; (try with_reducible rfl))
  try simp only [s1, s2, s3]
  refine tkD HT 23 45 (v := ?_) ?_ ?_
  rotate_left
  · (intro w5 hSw; obtain ⟨⟨q1, q2, q3⟩, q4, q5⟩ := hSw; go_simp; (try with_reducible rfl))
  try simp only [s1, s2, s3]
  refine tkD HT 24 46 (v := ?_) ?_ ?_
  rotate_left
  · (intro w5 hSw; obtain ⟨⟨q1, q2, q3⟩, q4, q5⟩ := hSw; go_simp; (try with_reducible rfl))
  try simp only [s1, s2, s3]
  refine tkD HT 25 47 (v := ?_) ?_ ?_
  rotate_left
  · (intro w5 hSw; obtain ⟨⟨q1, q2, q3⟩, q4, q5⟩ := hSw; go_simp; (try with_reducible rfl))
  try simp only [s1, s2, s3]
  refine tkD HT 26 48 (v := ?_) ?_ ?_
  rotate_left
  · (intro w5 hSw; obtain ⟨⟨q1, q2, q3⟩, q4, q5⟩ := hSw; go_simp; (try with_reducible rfl))
  try simp only [s1, s2, s3]
  refine tkL 27 (fun K5 hK => ?_)
  go_simp
  refine hK.out _ _ ?_
  clear hK K5
  try simp only [Act.put, s1, s2, s3]
  refine wpAnyM_done (by kernel_rfl) (NoPanic.normal ?_)
  have hC9 := C1.out.below HB6.out
  have hxx := keepc' X1.out HB6.out
  go_wp2_with (go_at_call 42; refine (answer_any hC9.toCL).mono ?_; rintro e w9 ⟨rfl, rfl⟩)
  go_ret
  rw [HTK.out]
  exact outP hC9 rfl (M1.out.trans (Mod.bel HB6.out)) (fun k hk => .inl hk)
set_option linter.unusedSimpArgs false in
set_option linter.unusedVariables false in
set_option maxHeartbeats 8000000 in
set_option maxRecDepth 100000 in
theorem tick_goes {w : World} {base p : Nat} {lv ov tv : Value} {c : Co} (clock draw : Int) (hcl : I64 clock) (hdr : I64 draw) (h : CL w base p lv ov tv c) (ok : Ok c) (hr : c.role ≠ 2) (hp : (c.begin clock).passed (c.begin clock).since (c.begin clock).timeout = true) (hw : waitsS c.heard clock = false) (ht : c.term < 18446744073709551615) :
    Calls Try.prog 11 #[.pointer (some ⟨p, 0, none⟩), .int .i64 clock, .int .i64 draw] w (OutP base p lv (c.tick clock draw) w) := by
  have mixed : Try.prog.follows .mixedOrders = true := by kernel_rfl
  have HW := Lib.hid (bel1 w (.cells #[.pointer (some ⟨p, 0, none⟩)] 31))
  have hbx : (w.alloc (.cells #[.pointer (some ⟨p, 0, none⟩)] 31)).cell? ⟨w.heap.size, 0, none⟩ = some (.pointer (some ⟨p, 0, none⟩)) := (cell_of (heap_alloc_new w _) 0 rfl).1
  have hxo := fun o => h.below (bel1 w o)
  have HB := Lib.hid (begin_any clock (hxo (.cells #[.pointer (some ⟨p, 0, none⟩)] 31)))
  have HBX := Lib.hid hbx
  have HNB := Lib.hid (show w.heap.size ≠ p ∧ ¬ CF p lv NIL NIL w.heap.size from ⟨by have := h.lt.1; omega, by
    rintro (e | e | e | e)
    · have := h.lt.1; omega
    · have := (h.lt.2 _ e).2; omega
    · cases e
    · cases e⟩)
  have HR := Lib.hid (show 0 ≤ (c.begin clock).out.length ∧ (c.begin clock).out.length = 0 ∧ (c.begin clock).dest.length = 0 from ⟨Nat.zero_le _, rfl, rfl⟩)
  have HOK := Lib.hid ok
  have HC0 := Lib.hid (Mod.bel (S := CF p lv NIL NIL) HW.out)
  have HTK := Lib.hid (show c.tick clock draw = (c.begin clock).campaign draw by unfold Co.tick; rw [if_neg (show ¬ (c.begin clock).role = 2 from hr)]; rw [hp, show waitsS (c.begin clock).heard clock = false from hw, show decide ((c.begin clock).term < 18446744073709551615) = true from decide_eq_true ht]; rfl)
  have htb : decide ((c.begin clock).term < 18446744073709551615) = true := decide_eq_true ht
  have hti : (c.begin clock).term < 18446744073709551615 := ht
  have hb : ((c.begin clock).role == 2) = false := by have h2 : (c.begin clock).role ≠ 2 := hr; simpa using h2
  have HP := Lib.hid (fun (n : Nat) (W : World) (hC : CL W base p lv NIL NIL (c.begin clock)) => passed_any (w := W.drewN n) (c.begin clock).since (c.begin clock).timeout (hC.below (below_drewN' _ n)) HOK.out.since (by have := HOK.out.timeout.1; show 0 ≤ c.timeout; omega) (by have := HOK.out.timeout.2; show c.timeout ≤ 100; omega))
  have HWT := Lib.hid (fun W => waits_any c.heard clock W HOK.out.heard.1 HOK.out.heard.2)
  rw [hp] at HP
  have HPP : Hid (∀ (n : Nat) (W : World), CL W base p lv NIL NIL (c.begin clock) → Calls Try.prog 38 #[.pointer (some ⟨p, 0, none⟩), .int .i64 (c.begin clock).since, .int .i64 (c.begin clock).timeout] (W.drewN n) (SameB true (W.drewN n))) := HP
  rw [hw] at HWT
  clear h ok hbx hxo hr hp hw
  go_enter Try.func11, Try.ntmps11
  go_upto_region 6 with (first
    | (go_at_call 35; refine HB.out.mono ?_; rintro e w1 ⟨rfl, hC, hM⟩; have C1 := Lib.hid hC; have M1 := Lib.hid (HC0.out.trans (hM.mono (fun _ _ e => Or.inl e))); have X1 := Lib.hid (box_keep HBX.out hM HNB.out.1); have gx := X1.out; obtain ⟨g1, g5⟩ := (And.intro hC.toCL.cells.1.2.1 hC.toCL.cells.1.2.2.2.2.2.1); clear hC hM))
  obtain ⟨Y, hY⟩ : ∃ Y, Y = w1 := ⟨_, rfl⟩
  subst hY
  refine wp_region_noPanic ?_
  refine wp_region_lim (TicS p w.heap.size (c.begin clock)) (fun i => decide (i < 27)) (fun i => false) (by kernel_rfl) (by kernel_rfl) ((C1.out.toCL.below (Below.refl _ _).drew).ticS (keepc' X1.out (Below.refl _ _).drew)) (fun HT hS0 => ?_)
  refine tkD HT 0 22 (v := ?_) ?_ ?_
  rotate_left
  · (intro w5 hSw; obtain ⟨⟨q1, q2, q3⟩, q4, q5⟩ := hSw; go_simp; (try with_reducible rfl))
  try simp only [s1, s2, s3]
  refine tkD HT 1 23 (v := ?_) ?_ ?_
  rotate_left
  · (intro w5 hSw; obtain ⟨⟨q1, q2, q3⟩, q4, q5⟩ := hSw; go_simp; (try with_reducible rfl))
  try simp only [s1, s2, s3]
  refine tkD HT 2 24 (v := ?_) ?_ ?_
  rotate_left
  · (intro w5 hSw; obtain ⟨⟨q1, q2, q3⟩, q4, q5⟩ := hSw; go_simp; (try with_reducible rfl))
  try simp only [s1, s2, s3]
  refine tkD HT 3 25 (v := ?_) ?_ ?_
  rotate_left
  · (intro w5 hSw; obtain ⟨⟨q1, q2, q3⟩, q4, q5⟩ := hSw; go_simp; (try with_reducible rfl))
  try simp only [s1, s2, s3]
  refine tkD HT 4 26 (v := ?_) ?_ ?_
  rotate_left
  · (intro w5 hSw; obtain ⟨⟨q1, q2, q3⟩, q4, q5⟩ := hSw; go_simp; (try with_reducible rfl))
  try simp only [s1, s2, s3]
  refine tkD HT 5 27 (v := ?_) ?_ ?_
  rotate_left
  · (intro w5 hSw; obtain ⟨⟨q1, q2, q3⟩, q4, q5⟩ := hSw; go_simp; (try with_reducible rfl))
  try simp only [s1, s2, s3]
  refine tkD HT 6 28 (v := ?_) ?_ ?_
  rotate_left
  · (intro w5 hSw; obtain ⟨⟨q1, q2, q3⟩, q4, q5⟩ := hSw; go_simp; (try with_reducible rfl))
  try simp only [s1, s2, s3]
  refine tkD HT 7 29 (v := ?_) ?_ ?_
  rotate_left
  · (intro w5 hSw; obtain ⟨⟨q1, q2, q3⟩, q4, q5⟩ := hSw; go_simp; (try with_reducible rfl))
  try simp only [s1, s2, s3]
  refine tkD HT 8 30 (v := ?_) ?_ ?_
  rotate_left
  · (intro w5 hSw; obtain ⟨⟨q1, q2, q3⟩, q4, q5⟩ := hSw; go_simp; (try with_reducible rfl))
  try simp only [s1, s2, s3]
  refine tkS 9 (fun K5 hK => ?_)
  go_simp
  go_at_call 38
  refine (HP.out 1 _ C1.out.toCL).mono ?_
  rintro e w6 ⟨rfl, rfl⟩
  dsimp only
  refine hK.out _ _ ((C1.out.toCL.below (Below.refl _ _).drew).ticS (keepc' X1.out (Below.refl _ _).drew)) (fun hS1 => ?_)
  clear hK K5
  try simp only [Act.put, s1, s2, s3]
  refine tkD HT 10 32 (v := ?_) ?_ ?_
  rotate_left
  · (intro w5 hSw; obtain ⟨⟨q1, q2, q3⟩, q4, q5⟩ := hSw; go_simp; (try with_reducible rfl))
  try simp only [s1, s2, s3]
  refine tkD HT 11 33 (v := ?_) ?_ ?_
  rotate_left
  · (intro w5 hSw; obtain ⟨⟨q1, q2, q3⟩, q4, q5⟩ := hSw; go_simp; (try with_reducible rfl))
  try simp only [s1, s2, s3]
  refine tkD HT 12 34 (v := ?_) ?_ ?_
  rotate_left
  · (intro w5 hSw; obtain ⟨⟨q1, q2, q3⟩, q4, q5⟩ := hSw; go_simp; (try with_reducible rfl))
  try simp only [s1, s2, s3]
  refine tkD HT 13 35 (v := ?_) ?_ ?_
  rotate_left
  · (intro w5 hSw; obtain ⟨⟨q1, q2, q3⟩, q4, q5⟩ := hSw; go_simp; (try with_reducible rfl))
  try simp only [s1, s2, s3]
  refine tkD HT 14 36 (v := ?_) ?_ ?_
  rotate_left
  · (intro w5 hSw; obtain ⟨⟨q1, q2, q3⟩, q4, q5⟩ := hSw; go_simp; (try with_reducible rfl))
  try simp only [s1, s2, s3]
  refine tkD HT 15 37 (v := ?_) ?_ ?_
  rotate_left
  · (intro w5 hSw; obtain ⟨⟨q1, q2, q3⟩, q4, q5⟩ := hSw; go_simp; (try with_reducible rfl))
  try simp only [s1, s2, s3]
  refine tkS 16 (fun K5 hK => ?_)
  go_simp
  go_at_call 40
  refine (HWT.out _).mono ?_
  rintro e w6 ⟨rfl, hb6⟩
  have HB6 := Lib.hid (grew_trans (Below.refl _ Y).drew hb6)
  clear hb6
  dsimp only
  refine hK.out _ _ ((C1.out.toCL.below HB6.out).ticS (keepc' X1.out HB6.out)) (fun hS1 => ?_)
  clear hK K5
  try simp only [Act.put, s1, s2, s3]
  refine tkD HT 17 39 (v := ?_) ?_ ?_
  rotate_left
  · (intro w5 hSw; obtain ⟨⟨q1, q2, q3⟩, q4, q5⟩ := hSw; go_simp; (try with_reducible rfl))
  try simp only [s1, s2, s3]
  refine tkD HT 18 40 (v := ?_) ?_ ?_
  rotate_left
  · (intro w5 hSw; obtain ⟨⟨q1, q2, q3⟩, q4, q5⟩ := hSw; go_simp; (try with_reducible rfl))
  try simp only [s1, s2, s3]
  refine tkD HT 19 41 (v := ?_) ?_ ?_
  rotate_left
  · (intro w5 hSw; obtain ⟨⟨q1, q2, q3⟩, q4, q5⟩ := hSw; go_simp; (try with_reducible rfl))
  try simp only [s1, s2, s3]
  refine tkD HT 20 42 (v := ?_) ?_ ?_
  rotate_left
  · (intro w5 hSw; obtain ⟨⟨q1, q2, q3⟩, q4, q5⟩ := hSw; go_simp; (try with_reducible rfl))
  try simp only [s1, s2, s3]
  refine tkD HT 21 43 (v := ?_) ?_ ?_
  rotate_left
  · (intro w5 hSw; obtain ⟨⟨q1, q2, q3⟩, q4, q5⟩ := hSw; go_simp; (try with_reducible rfl))
  try simp only [s1, s2, s3]
  refine tkD HT 22 44 (v := ?_) ?_ ?_
  rotate_left
  · (intro w5 hSw; obtain ⟨⟨q1, q2, q3⟩, q4, q5⟩ := hSw; go_simp; (try with_reducible rfl))
  try simp only [s1, s2, s3]
  refine tkD HT 23 45 (v := ?_) ?_ ?_
  rotate_left
  · (intro w5 hSw; obtain ⟨⟨q1, q2, q3⟩, q4, q5⟩ := hSw; go_simp; (try with_reducible rfl))
  try simp only [s1, s2, s3]
  refine tkD HT 24 46 (v := ?_) ?_ ?_
  rotate_left
  · (intro w5 hSw; obtain ⟨⟨q1, q2, q3⟩, q4, q5⟩ := hSw; go_simp; (try with_reducible rfl))
  try simp only [s1, s2, s3]
  refine tkD HT 25 47 (v := ?_) ?_ ?_
  rotate_left
  · (intro w5 hSw; obtain ⟨⟨q1, q2, q3⟩, q4, q5⟩ := hSw; go_simp; (try with_reducible rfl))
  try simp only [s1, s2, s3]
  refine tkD HT 26 48 (v := ?_) ?_ ?_
  rotate_left
  · (intro w5 hSw; obtain ⟨⟨q1, q2, q3⟩, q4, q5⟩ := hSw; go_simp; (try with_reducible rfl))
  try simp only [s1, s2, s3]
  refine tkL 27 (fun K5 hK => ?_)
  go_simp
  refine hK.out _ _ ?_
  clear hK K5
  try simp only [Act.put, s1, s2, s3]
  refine wpAnyM_done (by kernel_rfl) (NoPanic.normal ?_)
  have hxx := keepc' X1.out HB6.out
  go_wp2_with (first
    | (go_at_call 41; refine (campaign_any draw hdr (C1.out.below HB6.out) hti HOK.out.term.1 HOK.out.log (by have := HR.out; omega) (by have := HR.out; omega)).mono ?_; rintro e w8 ⟨rfl, hU⟩; obtain ⟨lv9, ov9, tv9, os9, hC9, hM9, hF9⟩ := CUpd.outP (M1.out.trans (Mod.bel HB6.out)) (fun _ hk => .inl hk) hU; have gx9 : w8.cell? ⟨w.heap.size, 0, none⟩ = some (.pointer (some ⟨p, 0, none⟩)) := box_keep hxx (upd_mod hU) HNB.out.2)
    | (go_at_call 42; refine (answer_any hC9.toCL).mono ?_; rintro e w9 ⟨rfl, rfl⟩))
  go_ret
  rw [HTK.out]
  exact outP hC9 rfl hM9 hF9
theorem tick_any {w : World} {base p : Nat} {lv ov tv : Value} {c : Co} (clock draw : Int) (hcl : I64 clock) (hdr : I64 draw) (h : CL w base p lv ov tv c) (ok : Ok c) :
    Calls Try.prog 11 #[.pointer (some ⟨p, 0, none⟩), .int .i64 clock, .int .i64 draw] w (OutP base p lv (c.tick clock draw) w) := by
  by_cases hr : c.role = 2
  · exact tick_lead clock draw hcl hdr h ok hr
  cases hp : (c.begin clock).passed (c.begin clock).since (c.begin clock).timeout with
  | false => exact tick_early clock draw hcl hdr h ok hr hp
  | true =>
    cases hw : waitsS c.heard clock with
    | true => exact tick_waits clock draw hcl hdr h ok hr hp hw
    | false =>
      by_cases ht : c.term < 18446744073709551615
      · exact tick_goes clock draw hcl hdr h ok hr hp hw ht
      · exact tick_last clock draw hcl hdr h ok hr hp hw ht
end Go.Proofs.Ytcleaamjfjnkkaa
