/- The laws that hold the program to the document's answer. -/
import Derived.Test.YthfchmdfoaiibaaWorks
namespace Go.Proofs.Ythfchmdfoaiibaa
open Go.RowKit Go.Joins

/-- entries that came in. -/
structure InE (w : World) (a : Option Addr) (cap : Nat) (es : List Ent) : Prop where
  ents : Ents w a es
  nil0 : a = none → cap = 0
  len : es.length ≤ cap
  capm : cap ≤ maxLen
  wf : ∀ i, i < es.length → wfE (es.getD i default)
theorem InE.below {w w' : World} {a : Option Addr} {cap : Nat} {es : List Ent} (h : InE w a cap es) (hb : Below w.heap.size w w') : InE w' a cap es := ⟨ents_below h.ents hb, h.nil0, h.len, h.capm, h.wf⟩
theorem own_in {w : World} {a : Option Addr} {cap : Nat} {es : List Ent} (h : InE w a cap es) (ES : List Ent) (hES : es.take 400 = ES) : Calls Try.prog 11 #[.slice a es.length cap] w (OwnPost ES w) := by
  subst hES; exact own_any a cap es w h.ents h.nil0 h.len h.capm
theorem own_sl_any {w : World} {a : Option Addr} {cap : Nat} {es : List Ent} (h : Sl w a cap es) (hl : es.length ≤ 400) : Calls Try.prog 11 #[.slice a es.length cap] w (OwnPost es w) := by
  have := own_any a cap es w h.ents h.nil0 h.len h.capm
  rw [List.take_of_length_le hl] at this
  exact this
theorem wf_take {es ES : List Ent} (h : ∀ i, i < es.length → wfE (es.getD i default)) (hES : es.take 400 = ES) : ∀ i, i < ES.length → wfE (ES.getD i default) := by
  subst hES
  intro i hi
  simp only [List.length_take] at hi
  rw [show (es.take 400).getD i default = es.getD i default by simp [List.getD, show i < 400 by omega]]
  exact h i (by omega)
theorem rfits_len (a : Option Addr) (c n : Nat) (es : List Ent) (prev term : Int) (hn : es.length = n) (w : World) (h : Sl w a c es) (r : Bool) (hr : fitsB es prev term = r) :
    Calls Try.prog 13 #[.slice a n c, .int .i64 prev, .int .u64 term] w (SameB r w) := by subst hn hr; exact rfits_any a c es prev term w h.ents (Nat.le_trans h.len h.capm)
theorem rnewer_len (a : Option Addr) (c n : Nat) (es : List Ent) (k term : Int) (hn : es.length = n) (w : World) (h : Sl w a c es) (r : Bool) (hr : newerB term k es = r) :
    Calls Try.prog 15 #[.int .u64 term, .int .i64 k, .slice a n c] w (SameB r w) := by subst hn hr; exact rnewer_any a c es k term w h.ents (Nat.le_trans h.len h.capm)
theorem rcheck_len (a : Option Addr) (c n : Nat) (es : List Ent) (hn : es.length = n) (w : World) (h : Sl w a c es) (hwf : ∀ i, i < es.length → wfE (es.getD i default)) (r : Int) (hr : checkE es = r) :
    Calls Try.prog 27 #[.slice a n c] w (RetI r w) := by subst hn hr; exact rcheck_any a c es w h.ents (Nat.le_trans h.len h.capm) hwf
theorem same_len (xs ys : List Ent) (ax ay : Option Addr) (cx cy n m : Nat) (hn : xs.length = n) (hm : ys.length = m) (w : World) (hx : Sl w ax cx xs) (hy : Sl w ay cy ys) (r : Bool) (hr : decide (xs = ys) = r) :
    Calls Try.prog 28 #[.slice ax n cx, .slice ay m cy] w (RetB r w) := by
  subst hn hm hr
  refine (same_any xs ys ax ay cx cy w hx.ents hy.ents (Nat.le_trans hx.len hx.capm)).mono ?_
  rintro e w' ⟨rfl, q, rfl⟩
  exact ⟨rfl, below_drewN' w q⟩
theorem rsame_len (xs ys : List Ent) (ax ay : Option Addr) (cx cy n m : Nat) (hn : xs.length = n) (hm : ys.length = m) (w : World) (hx : Sl w ax cx xs) (hy : Sl w ay cy ys) (r : Bool) (hr : decide (xs = ys) = r) :
    Calls Try.prog 19 #[.slice ax n cx, .slice ay m cy] w (RetB r w) := by
  subst hn hm hr
  refine (rsame_any xs ys ax ay cx cy w hx.ents hy.ents (Nat.le_trans hx.len hx.capm)).mono ?_
  rintro e w' ⟨rfl, q, rfl⟩
  exact ⟨rfl, below_drewN' w q⟩
theorem lines_len (s t : Line) (ax ay : Option Addr) (cx cy n m : Nat) (hn : s.2.2.2.length = n) (hm : t.2.2.2.length = m) (w : World) (hx : Gids w ax s.2.2.2) (hy : Gids w ay t.2.2.2) (hlx : n ≤ maxLen) (r : Bool) (hr : eqL s t = r) :
    Calls Try.prog 20 #[.agg #[.int .u64 s.1, .int .i64 s.2.1, .bool s.2.2.1, .slice ax n cx], .agg #[.int .u64 t.1, .int .i64 t.2.1, .bool t.2.2.1, .slice ay m cy]] w (RetB r w) := by
  subst hn hm hr; exact lines_any s.1 s.2.1 t.1 t.2.1 s.2.2.1 t.2.2.1 s.2.2.2 t.2.2.2 ax ay cx cy w hx hy hlx

set_option maxRecDepth 100000 in
set_option maxHeartbeats 1000000 in
theorem lawFits (a : Option Addr) (cap : Nat) (es : List Ent) (prev term : Int) (w : World) (h : InE w a cap es) : Calls Try.prog 3 #[.slice a es.length cap, .int .i64 prev, .int .u64 term] w (RetB true w) := by
  obtain ⟨ES, hES⟩ : ∃ ES, es.take 400 = ES := ⟨_, rfl⟩
  have hown := Lib.hid (own_in h ES hES)
  clear h hES
  obtain ⟨r1, hr1⟩ : ∃ r, fitsB ES prev term = r := ⟨_, rfl⟩
  obtain ⟨r2, hr2⟩ : ∃ r, newerB term prev ES = r := ⟨_, rfl⟩
  have R1 := Lib.hid hr1
  have R2 := Lib.hid hr2
  have q1 : (r1 == r1) = true := by simp
  have q2 : (r2 == r2) = true := by simp
  clear hr1 hr2
  go_enter Try.func3, Try.ntmps3
  go_wp2_with (first
    | (go_at_call 11; refine hown.out.mono ?_; intro e w1 hp; obtain ⟨a1, c1, rfl, hs, -, b1⟩ := sl_form hp rfl; have S := Lib.hid hs; clear hp hs)
    | (go_at_call 12; refine (fits_len _ _ _ ES prev term rfl _ S.out r1 R1.out).mono ?_; rintro e w2 ⟨rfl, rfl⟩)
    | (go_at_call 13; refine (rfits_len _ _ _ ES prev term rfl _ S.out r1 R1.out).mono ?_; rintro e w2 ⟨rfl, rfl⟩)
    | (go_at_call 14; refine (newer_len _ _ _ ES prev term rfl _ S.out r2 R2.out).mono ?_; rintro e w2 ⟨rfl, rfl⟩)
    | (go_at_call 15; refine (rnewer_len _ _ _ ES prev term rfl _ S.out r2 R2.out).mono ?_; rintro e w2 ⟨rfl, rfl⟩)
    | (go_at_call 16; refine (works_any _).mono ?_; rintro e w2 ⟨rfl, b2⟩))
  go_ret
  exact retB rfl (grew_trans b1 b2)

set_option maxRecDepth 100000 in
set_option maxHeartbeats 1000000 in
theorem lawChecks (a b : Option Addr) (cap capb : Nat) (es fs : List Ent) (w : World) (h : InE w a cap es) (hf : InE w b capb fs) : Calls Try.prog 8 #[.slice a es.length cap, .slice b fs.length capb] w (RetB true w) := by
  obtain ⟨ES, hES⟩ : ∃ ES, es.take 400 = ES := ⟨_, rfl⟩
  obtain ⟨FS, hFS⟩ : ∃ FS, fs.take 400 = FS := ⟨_, rfl⟩
  have hown := Lib.hid (own_in h ES hES)
  have hownf : Hid (∀ w1, Below w.heap.size w w1 → Calls Try.prog 11 #[.slice b fs.length capb] w1 (OwnPost FS w1)) := fun w1 hb => own_in (hf.below hb) FS hFS
  have W := Lib.hid (wf_take h.wf hES)
  have hl : Hid (ES.length ≤ 400) := by rw [← hES]; simp [Hid]; omega
  clear h hf hES hFS
  obtain ⟨r1, hr1⟩ : ∃ r, checkE ES = r := ⟨_, rfl⟩
  obtain ⟨r2, hr2⟩ : ∃ r, decide (ES = FS) = r := ⟨_, rfl⟩
  have R1 := Lib.hid hr1
  have R2 := Lib.hid hr2
  have q1 : (r1 == r1) = true := by simp
  have q2 : (r2 == r2) = true := by simp
  clear hr1 hr2
  have T1 := trivial
  go_enter Try.func8, Try.ntmps8
  go_wp2_with (first
    | (have q := T1; go_at_call 11; refine hown.out.mono ?_; intro e w1 hp; obtain ⟨a1, c1, rfl, hs, -, b1⟩ := sl_form hp rfl; have S := Lib.hid hs; have B1 := Lib.hid b1; clear hp hs b1 T1 q; have T2 := trivial)
    | (have q := T2; go_at_call 11; refine (hownf.out _ B1.out).mono ?_; intro e w2 hp; obtain ⟨a2, c2, rfl, hs, -, b2⟩ := sl_form hp rfl; have SF := Lib.hid hs; have S2 := Lib.hid (S.out.below b2); have B2 := Lib.hid (grew_trans B1.out b2); clear hp hs b2 T2 q S B1; have T3 := trivial)
    | (have q := T3; go_at_call 24; refine (check_len _ _ _ ES rfl _ S2.out W.out r1 R1.out).mono ?_; rintro e w3 ⟨rfl, b3⟩; have S3 := Lib.hid (S2.out.below b3); have SF3 := Lib.hid (SF.out.below b3); have B3 := Lib.hid (grew_trans B2.out b3); clear T3 q b3 S2 SF B2; have T4 := trivial)
    | (have q := T4; go_at_call 27; refine (rcheck_len _ _ _ ES rfl _ S3.out W.out r1 R1.out).mono ?_; rintro e w4 ⟨rfl, b4⟩; have S4 := Lib.hid (S3.out.below b4); have SF4 := Lib.hid (SF3.out.below b4); have B4 := Lib.hid (grew_trans B3.out b4); clear T4 q b4 S3 SF3 B3; have T5 := trivial)
    | (have q := T5; go_at_call 28; refine (same_len ES FS _ _ _ _ _ _ rfl rfl _ S4.out SF4.out r2 R2.out).mono ?_; rintro e w5 ⟨rfl, b5⟩; have S5 := Lib.hid (S4.out.below b5); have SF5 := Lib.hid (SF4.out.below b5); have B5 := Lib.hid (grew_trans B4.out b5); clear T5 q b5 S4 SF4 B4; have T6 := trivial)
    | (have q := T6; go_at_call 19; refine (rsame_len ES FS _ _ _ _ _ _ rfl rfl _ S5.out SF5.out r2 R2.out).mono ?_; rintro e w6 ⟨rfl, b6⟩; have S6 := Lib.hid (S5.out.below b6); have B6 := Lib.hid (grew_trans B5.out b6); clear T6 q b6 S5 SF5 B5; have T7 := trivial)
    | (have q := T7; go_at_call 11; refine (own_sl_any S6.out hl.out).mono ?_; intro e w7 hp; obtain ⟨a7, c7, rfl, hs, -, b7⟩ := sl_form hp rfl; have SO := Lib.hid hs; have S7 := Lib.hid (S6.out.below b7); have B7 := Lib.hid (grew_trans B6.out b7); clear hp hs b7 T7 q S6 B6; have T8 := trivial)
    | (have q := T8; go_at_call 28; refine (same_len ES ES _ _ _ _ _ _ rfl rfl _ S7.out SO.out true (by simp)).mono ?_; rintro e w8 ⟨rfl, b8⟩; have B8 := Lib.hid (grew_trans B7.out b8); clear T8 q b8 S7 SO B7; have T9 := trivial)
    | (have q := T9; go_at_call 16; refine (works_any _).mono ?_; rintro e w9 ⟨rfl, b9⟩; clear T9 q))
  go_ret
  exact retB rfl (grew_trans B8.out b9)

set_option maxRecDepth 100000 in
set_option maxHeartbeats 1000000 in
theorem lawFolds (a : Option Addr) (cap : Nat) (es : List Ent) (commit : Int) (w : World) (h : InE w a cap es) : Calls Try.prog 5 #[.slice a es.length cap, .int .i64 commit] w (RetB true w) := by
  obtain ⟨ES, hES⟩ : ∃ ES, es.take 400 = ES := ⟨_, rfl⟩
  have hown := Lib.hid (own_in h ES hES)
  have hl : Hid (ES.length ≤ 400) := by rw [← hES]; simp [Hid]; omega
  clear h hES
  have hL : ∀ c : Int, Hid ((foldL (ES.take (cut c ES.length))).2.2.2.length ≤ maxLen) := fun c => by
    have := foldL_len ES _ (cut_le c ES.length)
    have := cut_le c ES.length
    have := hl.out
    unfold Hid maxLen; omega
  have L1 := hL commit
  have L2 := hL (ES.length : Int)
  clear hL
  obtain ⟨s1, hs1⟩ : ∃ s, foldL (ES.take (cut commit ES.length)) = s := ⟨_, rfl⟩
  obtain ⟨s2, hs2⟩ : ∃ s, foldL (ES.take (cut (ES.length : Int) ES.length)) = s := ⟨_, rfl⟩
  rw [hs1] at L1
  rw [hs2] at L2
  have R1 := Lib.hid hs1
  have R2 := Lib.hid hs2
  clear hs1 hs2
  have T1 := trivial
  go_enter Try.func5, Try.ntmps5
  go_wp2_with (first
    | (have q := T1; go_at_call 11; refine hown.out.mono ?_; intro e w1 hp; obtain ⟨a1, c1, rfl, hs, -, b1⟩ := sl_form hp rfl; have S := Lib.hid hs; have B1 := Lib.hid b1; clear hp hs b1 T1 q; have T2 := trivial)
    | (have q := T2; go_at_call 21; refine (fold_len _ _ _ ES commit rfl _ S.out (by have := hl.out; omega) s1 R1.out).mono ?_; intro e w2 hp; obtain ⟨a2, c2, rfl, hg, b2⟩ := line_form hp rfl; have G2 := Lib.hid hg; have S2 := Lib.hid (S.out.below b2); have B2 := Lib.hid (grew_trans B1.out b2); clear hp hg b2 T2 q S B1; have T3 := trivial)
    | (have q := T3; go_at_call 22; refine (rfold_len _ _ _ ES commit rfl _ S2.out (by have := hl.out; omega) s1 R1.out).mono ?_; intro e w3 hp; obtain ⟨a3, c3, rfl, hg, b3⟩ := line_form hp rfl; have G3 := Lib.hid hg; have G2' := Lib.hid (gids_below G2.out b3); have S3 := Lib.hid (S2.out.below b3); have B3 := Lib.hid (grew_trans B2.out b3); clear hp hg b3 T3 q S2 B2 G2; have T4 := trivial)
    | (have q := T4; go_at_call 20; refine (lines_len s1 s1 _ _ _ _ _ _ rfl rfl _ G2'.out G3.out L1.out true (by simp [eqL])).mono ?_; rintro e w4 ⟨rfl, b4⟩; have S4 := Lib.hid (S3.out.below b4); have B4 := Lib.hid (grew_trans B3.out b4); clear b4 T4 q S3 B3 G2' G3; have T5 := trivial)
    | (have q := T5; go_at_call 21; refine (fold_len _ _ _ ES (ES.length : Int) rfl _ S4.out (by have := hl.out; omega) s2 R2.out).mono ?_; intro e w5 hp; obtain ⟨a5, c5, rfl, hg, b5⟩ := line_form hp rfl; have G5 := Lib.hid hg; have S5 := Lib.hid (S4.out.below b5); have B5 := Lib.hid (grew_trans B4.out b5); clear hp hg b5 T5 q S4 B4; have T6 := trivial)
    | (have q := T6; go_at_call 22; refine (rfold_len _ _ _ ES (ES.length : Int) rfl _ S5.out (by have := hl.out; omega) s2 R2.out).mono ?_; intro e w6 hp; obtain ⟨a6, c6, rfl, hg, b6⟩ := line_form hp rfl; have G6 := Lib.hid hg; have G5' := Lib.hid (gids_below G5.out b6); have B6 := Lib.hid (grew_trans B5.out b6); clear hp hg b6 T6 q S5 B5 G5; have T7 := trivial)
    | (have q := T7; go_at_call 20; refine (lines_len s2 s2 _ _ _ _ _ _ rfl rfl _ G5'.out G6.out L2.out true (by simp [eqL])).mono ?_; rintro e w7 ⟨rfl, b7⟩; have B7 := Lib.hid (grew_trans B6.out b7); clear b7 T7 q B6 G5' G6; have T8 := trivial)
    | (have q := T8; go_at_call 16; refine (works_any _).mono ?_; rintro e w9 ⟨rfl, b9⟩; clear T8 q))
  go_ret
  exact retB rfl (grew_trans B7.out b9)
end Go.Proofs.Ythfchmdfoaiibaa
