/- A log of two epochs. -/
import Derived.Test.YthfchmdfoaiibaaMade
namespace Go.Proofs.Ythfchmdfoaiibaa
open Go.RowKit Go.Joins

/-! ### Contracts at lengths -/
theorem join_len (a b : Option Addr) (c d n m : Nat) (es more : List Ent) (prev : Int) (hn : es.length = n) (hm : more.length = m) (w : World) (hl : Sl w a c es) (hmo : Sl w b d more) (hb : (es.length + more.length) * 32 ≤ 140737488355328) :
    Calls Try.prog 17 #[.slice a n c, .int .i64 prev, .slice b m d] w (OwnPost (joinL es prev more) w) := by subst hn hm; exact join_any a b c d es more prev w hl hmo hb
theorem rjoin_len (a b : Option Addr) (c d n m : Nat) (es more : List Ent) (prev : Int) (hn : es.length = n) (hm : more.length = m) (w : World) (hl : Sl w a c es) (hmo : Sl w b d more) (hb : (es.length + more.length) * 32 ≤ 140737488355328) :
    Calls Try.prog 18 #[.slice a n c, .int .i64 prev, .slice b m d] w (OwnPost (joinL es prev more) w) := by subst hn hm; exact rjoin_any a b c d es more prev w hl hmo hb
theorem fold_len (a : Option Addr) (c n : Nat) (es : List Ent) (commit : Int) (hn : es.length = n) (w : World) (h : Sl w a c es) (hlen : n < 100000) (s : Line) (hs : foldL (es.take (cut commit n)) = s) :
    Calls Try.prog 21 #[.slice a n c, .int .i64 commit] w (LinePost s w) := by subst hn hs; exact fold_any a c es commit w h hlen
theorem rfold_len (a : Option Addr) (c n : Nat) (es : List Ent) (commit : Int) (hn : es.length = n) (w : World) (h : Sl w a c es) (hlen : n < 100000) (s : Line) (hs : foldL (es.take (cut commit n)) = s) :
    Calls Try.prog 22 #[.slice a n c, .int .i64 commit] w (LinePost s w) := by subst hn hs; exact rfold_any a c es commit w h hlen
theorem check_len (a : Option Addr) (c n : Nat) (es : List Ent) (hn : es.length = n) (w : World) (h : Sl w a c es) (hwf : ∀ i, i < es.length → wfE (es.getD i default)) (r : Int) (hr : checkE es = r) :
    Calls Try.prog 24 #[.slice a n c] w (RetI r w) := by subst hn hr; exact check_any a c es w h.ents (Nat.le_trans h.len h.capm) hwf
theorem newer_len (a : Option Addr) (c n : Nat) (es : List Ent) (k term : Int) (hn : es.length = n) (w : World) (h : Sl w a c es) (r : Bool) (hr : newerB term k es = r) :
    Calls Try.prog 14 #[.int .u64 term, .int .i64 k, .slice a n c] w (SameB r w) := by subst hn hr; exact newer_any a c es k term w h.ents (Nat.le_trans h.len h.capm)
theorem fits_len (a : Option Addr) (c n : Nat) (es : List Ent) (prev term : Int) (hn : es.length = n) (w : World) (h : Sl w a c es) (r : Bool) (hr : fitsB es prev term = r) :
    Calls Try.prog 12 #[.slice a n c, .int .i64 prev, .int .u64 term] w (SameB r w) := by subst hn hr; exact fits_any a c es prev term w h.ents h.len h.capm
theorem is_len (e1 b1 e2 b2 : Int) (l1 l2 : Bool) (gs hs : List Gid) (ax ay : Option Addr) (cx cy n m : Nat) (hn : gs.length = n) (hm : hs.length = m) (w : World) (hx : Gids w ax gs) (hy : Gids w ay hs) (hlx : m ≤ maxLen) (r : Bool) (hr : eqL (e1, b1, l1, gs) (e2, b2, l2, hs) = r) :
    Calls Try.prog 33 #[.agg #[.int .u64 e1, .int .i64 b1, .bool l1, .slice ax n cx], .int .u64 e2, .int .i64 b2, .bool l2, .slice ay m cy] w (RetB r w) := by subst hn hm hr; exact is_any e1 b1 e2 b2 l1 l2 gs hs ax ay cx cy w hx hy hlx
theorem line_form {s : Line} {n : Nat} {w w' : World} {e : Ending} (h : LinePost s w e w') (hn : s.2.2.2.length = n) : ∃ a cap, e = .returned (.agg #[.int .u64 s.1, .int .i64 s.2.1, .bool s.2.2.1, .slice a n cap]) ∧ Gids w' a s.2.2.2 ∧ Below w.heap.size w w' := by
  subst hn
  obtain ⟨v, rfl, ho, hb⟩ := h
  obtain ⟨a, cap, rfl, h1, -⟩ := own_gids ho
  exact ⟨a, cap, rfl, h1, hb⟩
theorem al (w : World) (o : Obj) : Below w.heap.size w (w.alloc o) := (Below.refl _ w).alloc (Nat.le_refl _) o
/-- a list that was just laid. -/
theorem sl_lit (w : World) (es : List Ent) (n o : Nat) (ho : o = w.heap.size) (hn : es.length = n) (hm : n ≤ maxLen) : Sl (w.alloc (.cells (flat es).toArray 33)) (some ⟨o, 0, none⟩) n es := by
  subst ho hn
  refine ⟨fun i hi => ⟨_, 0, rfl, ec_of_flat hi fun j u hu => ?_⟩, by simp, Nat.le_refl _, hm, fun ad e => by simp at e; exact ⟨_, _, e.symm⟩⟩
  rw [Nat.zero_add, World.cell?_alloc_at _ _ _ _ rfl]
  simpa using hu
theorem gids_lit (w : World) (gs : List Gid) (o : Nat) (ho : o = w.heap.size) : Gids (w.alloc (.cells (flatG gs).toArray 31)) (some ⟨o, 0, none⟩) gs := by
  subst ho
  intro i hi
  have hh : ∀ j u, (flatG gs)[j]? = some u → (w.alloc (.cells (flatG gs).toArray 31)).cell? ⟨w.heap.size, j, none⟩ = some u := fun j u hu => by
    rw [World.cell?_alloc_at _ _ _ _ rfl]; simpa using hu
  have h0 := hh (i * 2 + 0) _ (by rw [flatG_get gs i 0 (by omega) hi]; rfl)
  have h1 := hh (i * 2 + 1) _ (by rw [flatG_get gs i 1 (by omega) hi]; rfl)
  refine ⟨_, 0, rfl, ?_⟩
  rw [Nat.zero_add]
  exact ⟨h0, h1⟩
theorem gids_none (w : World) : Gids w none [] := fun i hi => by simp at hi

def wkL : List Ent := [(1, 1, 0, 0), (1, 2, 0, 0), (2, 1, 0, 0)]
def wkM : List Ent := [(1, 3, 1, 1), (3, 1, 0, 0)]
def wkJ : List Ent := [(1, 1, 0, 0), (1, 2, 0, 0), (1, 3, 1, 1), (3, 1, 0, 0)]
theorem wk_facts : joinL wkL 2 wkM = wkJ ∧ foldL (wkJ.take (cut 4 4)) = (3, 1, false, [(1, 1)]) ∧ foldL (wkJ.take (cut 2 4)) = (1, 0, true, []) ∧ checkE wkJ = 0 ∧ newerB 3 4 wkJ = true ∧ newerB 3 3 wkJ = false ∧ fitsB wkJ 4 3 = true := by decide +kernel
theorem wk_wf : ∀ i, i < wkJ.length → wfE (wkJ.getD i default) := by
  intro i hi
  have : i = 0 ∨ i = 1 ∨ i = 2 ∨ i = 3 := by simp [wkJ] at hi; omega
  rcases this with rfl | rfl | rfl | rfl <;> exact ⟨by decide, by decide, by decide⟩

set_option maxRecDepth 100000 in
set_option maxHeartbeats 4000000 in
theorem works_any (w : World) : Calls Try.prog 16 #[] w (RetB true w) := by
  obtain ⟨f1, f2, f3, f4, f5, f6, f7⟩ := wk_facts
  have F := Lib.hid (And.intro f1 (And.intro f2 (And.intro f3 (And.intro f4 (And.intro f5 (And.intro f6 f7))))))
  clear f1 f2 f3 f4 f5 f6 f7
  have T1 := trivial
  go_enter Try.func16, Try.ntmps16
  go_wp2_with (first
    | (have q := T1; go_at_call 30; refine (epoch_new 1 _).mono ?_; rintro e w1 ⟨rfl, b1⟩; clear T1 q; have T2 := trivial)
    | (have q := T2; go_at_call 32; refine (lease_new 1 _).mono ?_; rintro e w2 ⟨rfl, b2⟩; clear T2 q; have T3 := trivial)
    | (have q := T3; go_at_call 30; refine (epoch_new 2 _).mono ?_; rintro e w3 ⟨rfl, b3⟩; have B3 := Lib.hid (grew_trans (grew_trans b1 b2) b3); clear T3 q b1 b2 b3; have T4 := trivial)
    | (have q := T4; go_at_call 29; refine (commit_new 1 1 _).mono ?_; rintro e w4 ⟨rfl, b4⟩; have s1 := Lib.hid ((sl_lit w3 wkL 3 _ rfl rfl (by unfold maxLen; omega)).below b4); have B4 := Lib.hid (grew_trans (grew_trans B3.out (al _ _)) b4); clear T4 q b4 B3; have T5 := trivial)
    | (have q := T5; go_at_call 30; refine (epoch_new 3 _).mono ?_; rintro e w5 ⟨rfl, b5⟩; have s2 := Lib.hid (s1.out.below b5); have B5 := Lib.hid (grew_trans B4.out b5); clear T5 q b5 B4 s1; have T6 := trivial)
    | (have q := T6; go_at_call 17; refine (join_len _ _ 3 2 3 2 wkL wkM 2 rfl rfl _ (s2.out.below (al _ _)) (sl_lit w5 wkM 2 _ rfl rfl (by unfold maxLen; omega)) (by decide)).mono ?_; intro e w6 hp; rw [F.out.1] at hp; obtain ⟨a6, c6, rfl, hs6, -, b6⟩ := sl_form hp (n := 4) rfl; have S6 := Lib.hid hs6; have B6 := Lib.hid (grew_trans (grew_trans B5.out (al _ _)) b6); clear T6 q b6 B5 s2 hp hs6; have T7 := trivial)
    | (have q := T7; go_at_call 21; refine (fold_len _ _ 4 wkJ 4 rfl _ S6.out (by omega) _ F.out.2.1).mono ?_; intro e w7 hp; obtain ⟨a7, c7, rfl, hg7, b7⟩ := line_form hp (n := 1) rfl; have S7 := Lib.hid (S6.out.below b7); have G7 := Lib.hid hg7; have B7 := Lib.hid (grew_trans B6.out b7); clear T7 q b7 B6 S6 hp hg7; have T8 := trivial)
    | (have q := T8; go_at_call 31; refine (guid_new 1 1 _).mono ?_; rintro e w8 ⟨rfl, b8⟩; have S8 := Lib.hid (S7.out.below b8); have G8 := Lib.hid (gids_below G7.out b8); have B8 := Lib.hid (grew_trans B7.out b8); clear T8 q b8 B7 S7 G7; have T9 := trivial)
    | (have q := T9; go_at_call 33; refine (is_len 3 1 3 1 false false [(1, 1)] [(1, 1)] _ _ _ _ 1 1 rfl rfl _ (gids_below G8.out (al _ _)) (gids_lit w8 [(1, 1)] _ rfl) (by unfold maxLen; omega) true (by decide)).mono ?_; rintro e w9 ⟨rfl, b9⟩; have S9 := Lib.hid ((S8.out.below (al _ _)).below b9); have B9 := Lib.hid (grew_trans (grew_trans B8.out (al _ _)) b9); clear T9 q b9 B8 S8 G8; have T10 := trivial)
    | (have q := T10; go_at_call 21; refine (fold_len _ _ 4 wkJ 2 rfl _ S9.out (by omega) _ F.out.2.2.1).mono ?_; intro e w10 hp; obtain ⟨a10, c10, rfl, hg10, b10⟩ := line_form hp (n := 0) rfl; have S10 := Lib.hid (S9.out.below b10); have G10 := Lib.hid hg10; have B10 := Lib.hid (grew_trans B9.out b10); clear T10 q b10 B9 S9 hp hg10; have T11 := trivial)
    | (have q := T11; go_at_call 33; refine (is_len 1 0 1 0 true true [] [] _ none _ 0 0 0 rfl rfl _ G10.out (gids_none _) (by unfold maxLen; omega) true (by decide)).mono ?_; rintro e w11 ⟨rfl, b11⟩; have S11 := Lib.hid (S10.out.below b11); have B11 := Lib.hid (grew_trans B10.out b11); clear T11 q b11 B10 S10 G10; have T12 := trivial)
    | (have q := T12; go_at_call 24; refine (check_len _ _ 4 wkJ rfl _ S11.out wk_wf 0 F.out.2.2.2.1).mono ?_; rintro e w12 ⟨rfl, b12⟩; have S12 := Lib.hid (S11.out.below b12); have B12 := Lib.hid (grew_trans B11.out b12); clear T12 q b12 B11 S11; have T13 := trivial)
    | (have q := T13; go_at_call 14; refine (newer_len _ _ 4 wkJ 4 3 rfl _ S12.out true F.out.2.2.2.2.1).mono ?_; rintro e w13 ⟨rfl, rfl⟩; clear T13 q; have T14 := trivial)
    | (have q := T14; go_at_call 14; refine (newer_len _ _ 4 wkJ 3 3 rfl _ S12.out false F.out.2.2.2.2.2.1).mono ?_; rintro e w14 ⟨rfl, rfl⟩; clear T14 q; have T15 := trivial)
    | (have q := T15; go_at_call 12; refine (fits_len _ _ 4 wkJ 4 3 rfl _ S12.out true F.out.2.2.2.2.2.2).mono ?_; rintro e w15 ⟨rfl, rfl⟩; clear T15 q))
  go_ret
  exact retB rfl B12.out
end Go.Proofs.Ythfchmdfoaiibaa
