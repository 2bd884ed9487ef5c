/- Of two logs one is as far as the other one. -/
import Derived.Test.YthfchmdfoaiibaaLaws
namespace Go.Proofs.Ythfchmdfoaiibaa
open Go.RowKit Go.Joins

set_option maxRecDepth 100000 in
theorem llast_any (a : Option Addr) (cap : Nat) (es : List Ent) (w : World) (hE : Ents w a es) (hlen : es.length ≤ maxLen) :
    Calls Try.prog 26 #[.slice a es.length cap] w (SameU (lastT es) w) := by
  unfold maxLen at hlen
  by_cases h0 : es.length = 0
  · have hL : Hid (0 = lastT es) := by rw [Hid, lastT, if_pos h0]
    rw [h0]
    clear h0 hE
    go_enter Try.func26, Try.ntmps26
    go_wp2
    go_ret
    exact sameU hL.out
  · have hL : Hid ((es.getD (es.length - 1) default).1 = lastT es) := by rw [Hid, lastT, if_neg h0]
    obtain ⟨b, off, rfl, h1, -⟩ := hE (es.length - 1) (by omega)
    generalize (es.getD (es.length - 1) default).1 = t at h1 hL
    have hb : ((es.length : Int) == 0) = false := by simp; intro h; simp [h] at h0
    have hp : 0 < es.length := by omega
    clear h0 hE
    go_enter Try.func26, Try.ntmps26
    go_wp2
    go_ret
    exact sameU hL.out
theorem llast_len (a : Option Addr) (c n : Nat) (es : List Ent) (hn : es.length = n) (w : World) (h : Sl w a c es) (t : Int) (ht : lastT es = t) : Calls Try.prog 26 #[.slice a n c] w (SameU t w) := by
  subst hn ht; exact llast_any a c es w h.ents (Nat.le_trans h.len h.capm)
theorem fits_zero (es : List Ent) : fitsB es 0 0 = true := by
  unfold fitsB; simp [lastT]
theorem fits_end (es : List Ent) : fitsB es (es.length : Int) (lastT es) = true := by
  unfold fitsB
  rw [Int.toNat_natCast, List.take_length]
  by_cases h : es.length = 0
  · have : lastT es = 0 := by rw [lastT, if_pos h]
    simp [this]
  · simp; left; omega
theorem newer_self (es : List Ent) : newerB (lastT es) (es.length : Int) es = true := by unfold newerB; simp

set_option maxRecDepth 100000 in
set_option maxHeartbeats 2000000 in
theorem lawFurther (a b : Option Addr) (cap capb : Nat) (es fs : List Ent) (w : World) (h : InE w a cap es) (hf : InE w b capb fs) : Calls Try.prog 7 #[.slice a es.length cap, .slice b fs.length capb] w (RetB true w) := by
  obtain ⟨ES, hES⟩ : ∃ ES, es.take 400 = ES := ⟨_, rfl⟩
  obtain ⟨FS, hFS⟩ : ∃ FS, fs.take 400 = FS := ⟨_, rfl⟩
  have hown := Lib.hid (own_in h ES hES)
  have hownf : Hid (∀ w1, Below w.heap.size w w1 → Calls Try.prog 11 #[.slice b fs.length capb] w1 (OwnPost FS w1)) := fun w1 hb => own_in (hf.below hb) FS hFS
  clear h hf hES hFS
  obtain ⟨te, hte⟩ : ∃ t, lastT ES = t := ⟨_, rfl⟩
  obtain ⟨tf, htf⟩ : ∃ t, lastT FS = t := ⟨_, rfl⟩
  obtain ⟨x, hx⟩ : ∃ r, newerB te (ES.length : Int) FS = r := ⟨_, rfl⟩
  obtain ⟨y, hy⟩ : ∃ r, newerB tf (FS.length : Int) ES = r := ⟨_, rfl⟩
  have TE := Lib.hid hte
  have TF := Lib.hid htf
  have HX := Lib.hid hx
  have HY := Lib.hid hy
  have hfe : Hid (fitsB ES (ES.length : Int) te = true) := by rw [← hte]; exact fits_end ES
  have hne : Hid (newerB te (ES.length : Int) ES = true) := by rw [← hte]; exact newer_self ES
  have hcase : (x = true ∧ y = false) ∨ (x = false ∧ y = true) ∨ (x = true ∧ y = true ∧ te = tf ∧ ES.length = FS.length) := by
    rw [← hx, ← hy]
    unfold newerB
    rw [hte, htf]
    by_cases h1 : tf < te
    · left; simp [h1]; constructor <;> omega
    · by_cases h2 : te < tf
      · right; left; simp [h2]; constructor <;> omega
      · have h3 : te = tf := by omega
        subst h3
        simp
        omega
  clear hte htf hx hy
  have hnn : ∀ n : Int, (n != n) = false := fun n => by simp
  have T1 := trivial
  rcases hcase with ⟨rfl, rfl⟩ | ⟨rfl, rfl⟩ | ⟨rfl, rfl, rfl, hll⟩
  · go_enter Try.func7, Try.ntmps7
    go_wp2_with (first
      | (have q := T1; go_at_call 11; refine hown.out.mono ?_; intro e w1 hp; obtain ⟨a1, c1, rfl, hs, -, b1⟩ := sl_form hp rfl; have S := Lib.hid hs; have B1 := Lib.hid b1; clear hp hs b1 T1 q; have T2 := trivial)
      | (have q := T2; go_at_call 11; refine (hownf.out _ B1.out).mono ?_; intro e w2 hp; obtain ⟨a2, c2, rfl, hs, -, b2⟩ := sl_form hp rfl; have SF := Lib.hid hs; have S2 := Lib.hid (S.out.below b2); have B2 := Lib.hid (grew_trans B1.out b2); clear hp hs b2 T2 q S B1; have T3 := trivial)
      | (have q := T3; go_at_call 26; refine (llast_len _ _ _ ES rfl _ S2.out te TE.out).mono ?_; rintro e w3 ⟨rfl, rfl⟩; clear T3 q; have T4 := trivial)
      | (have q := T4; go_at_call 14; refine (newer_len _ _ _ FS (ES.length : Int) te rfl _ SF.out _ HX.out).mono ?_; rintro e w3 ⟨rfl, rfl⟩; clear T4 q; have T5 := trivial)
      | (have q := T5; go_at_call 26; refine (llast_len _ _ _ FS rfl _ SF.out tf TF.out).mono ?_; rintro e w3 ⟨rfl, rfl⟩; clear T5 q; have T6 := trivial)
      | (have q := T6; go_at_call 14; refine (newer_len _ _ _ ES (FS.length : Int) tf rfl _ S2.out _ HY.out).mono ?_; rintro e w3 ⟨rfl, rfl⟩; clear T6 q; have T7 := trivial)
      | (have q := T7; go_at_call 26; refine (llast_len _ _ _ ES rfl _ S2.out te TE.out).mono ?_; rintro e w3 ⟨rfl, rfl⟩; clear T7 q; have T8 := trivial)
      | (have q := T8; go_at_call 12; refine (fits_len _ _ _ ES (ES.length : Int) te rfl _ S2.out _ hfe.out).mono ?_; rintro e w3 ⟨rfl, rfl⟩; clear T8 q; have T9 := trivial)
      | (have q := T9; go_at_call 12; refine (fits_len _ _ _ ES 0 0 rfl _ S2.out _ (fits_zero ES)).mono ?_; rintro e w3 ⟨rfl, rfl⟩; clear T9 q; have T10 := trivial)
      | (have q := T10; go_at_call 26; refine (llast_len _ _ _ ES rfl _ S2.out te TE.out).mono ?_; rintro e w3 ⟨rfl, rfl⟩; clear T10 q; have T11 := trivial)
      | (have q := T11; go_at_call 14; refine (newer_len _ _ _ ES (ES.length : Int) te rfl _ S2.out _ hne.out).mono ?_; rintro e w3 ⟨rfl, rfl⟩; clear T11 q; have T12 := trivial)
      | (have q := T12; go_at_call 16; refine (works_any _).mono ?_; rintro e w10 ⟨rfl, b10⟩; clear T12 q))
    go_ret
    exact retB rfl (grew_trans B2.out b10)
  · go_enter Try.func7, Try.ntmps7
    go_wp2_with (first
      | (have q := T1; go_at_call 11; refine hown.out.mono ?_; intro e w1 hp; obtain ⟨a1, c1, rfl, hs, -, b1⟩ := sl_form hp rfl; have S := Lib.hid hs; have B1 := Lib.hid b1; clear hp hs b1 T1 q; have T2 := trivial)
      | (have q := T2; go_at_call 11; refine (hownf.out _ B1.out).mono ?_; intro e w2 hp; obtain ⟨a2, c2, rfl, hs, -, b2⟩ := sl_form hp rfl; have SF := Lib.hid hs; have S2 := Lib.hid (S.out.below b2); have B2 := Lib.hid (grew_trans B1.out b2); clear hp hs b2 T2 q S B1; have T3 := trivial)
      | (have q := T3; go_at_call 26; refine (llast_len _ _ _ ES rfl _ S2.out te TE.out).mono ?_; rintro e w3 ⟨rfl, rfl⟩; clear T3 q; have T4 := trivial)
      | (have q := T4; go_at_call 14; refine (newer_len _ _ _ FS (ES.length : Int) te rfl _ SF.out _ HX.out).mono ?_; rintro e w3 ⟨rfl, rfl⟩; clear T4 q; have T5 := trivial)
      | (have q := T5; go_at_call 26; refine (llast_len _ _ _ FS rfl _ SF.out tf TF.out).mono ?_; rintro e w3 ⟨rfl, rfl⟩; clear T5 q; have T6 := trivial)
      | (have q := T6; go_at_call 14; refine (newer_len _ _ _ ES (FS.length : Int) tf rfl _ S2.out _ HY.out).mono ?_; rintro e w3 ⟨rfl, rfl⟩; clear T6 q; have T7 := trivial)
      | (have q := T7; go_at_call 26; refine (llast_len _ _ _ ES rfl _ S2.out te TE.out).mono ?_; rintro e w3 ⟨rfl, rfl⟩; clear T7 q; have T8 := trivial)
      | (have q := T8; go_at_call 12; refine (fits_len _ _ _ ES (ES.length : Int) te rfl _ S2.out _ hfe.out).mono ?_; rintro e w3 ⟨rfl, rfl⟩; clear T8 q; have T9 := trivial)
      | (have q := T9; go_at_call 12; refine (fits_len _ _ _ ES 0 0 rfl _ S2.out _ (fits_zero ES)).mono ?_; rintro e w3 ⟨rfl, rfl⟩; clear T9 q; have T10 := trivial)
      | (have q := T10; go_at_call 26; refine (llast_len _ _ _ ES rfl _ S2.out te TE.out).mono ?_; rintro e w3 ⟨rfl, rfl⟩; clear T10 q; have T11 := trivial)
      | (have q := T11; go_at_call 14; refine (newer_len _ _ _ ES (ES.length : Int) te rfl _ S2.out _ hne.out).mono ?_; rintro e w3 ⟨rfl, rfl⟩; clear T11 q; have T12 := trivial)
      | (have q := T12; go_at_call 16; refine (works_any _).mono ?_; rintro e w10 ⟨rfl, b10⟩; clear T12 q))
    go_ret
    exact retB rfl (grew_trans B2.out b10)
  · have q1 := hnn te
    have q2 : ((ES.length : Int) != (FS.length : Int)) = false := by rw [hll]; exact hnn _
    have q3 : ((ES.length : Int) == (FS.length : Int)) = true := by simp [hll]
    clear hll hnn
    go_enter Try.func7, Try.ntmps7
    go_wp2_with (first
      | (have q := T1; go_at_call 11; refine hown.out.mono ?_; intro e w1 hp; obtain ⟨a1, c1, rfl, hs, -, b1⟩ := sl_form hp rfl; have S := Lib.hid hs; have B1 := Lib.hid b1; clear hp hs b1 T1 q; have T2 := trivial)
      | (have q := T2; go_at_call 11; refine (hownf.out _ B1.out).mono ?_; intro e w2 hp; obtain ⟨a2, c2, rfl, hs, -, b2⟩ := sl_form hp rfl; have SF := Lib.hid hs; have S2 := Lib.hid (S.out.below b2); have B2 := Lib.hid (grew_trans B1.out b2); clear hp hs b2 T2 q S B1; have T3 := trivial)
      | (have q := T3; go_at_call 26; refine (llast_len _ _ _ ES rfl _ S2.out te TE.out).mono ?_; rintro e w3 ⟨rfl, rfl⟩; clear T3 q; have T4 := trivial)
      | (have q := T4; go_at_call 14; refine (newer_len _ _ _ FS (ES.length : Int) te rfl _ SF.out _ HX.out).mono ?_; rintro e w3 ⟨rfl, rfl⟩; clear T4 q; have T5 := trivial)
      | (have q := T5; go_at_call 26; refine (llast_len _ _ _ FS rfl _ SF.out te TF.out).mono ?_; rintro e w3 ⟨rfl, rfl⟩; clear T5 q; have T6 := trivial)
      | (have q := T6; go_at_call 14; refine (newer_len _ _ _ ES (FS.length : Int) te rfl _ S2.out _ HY.out).mono ?_; rintro e w3 ⟨rfl, rfl⟩; clear T6 q; have T7 := trivial)
      | (have q := T7; go_at_call 26; refine (llast_len _ _ _ ES rfl _ S2.out te TE.out).mono ?_; rintro e w3 ⟨rfl, rfl⟩; clear T7 q; have T7b := trivial)
      | (have q := T7b; go_at_call 26; refine (llast_len _ _ _ FS rfl _ SF.out te TF.out).mono ?_; rintro e w3 ⟨rfl, rfl⟩; clear T7b q; have T7c := trivial)
      | (have q := T7c; go_at_call 26; refine (llast_len _ _ _ ES rfl _ S2.out te TE.out).mono ?_; rintro e w3 ⟨rfl, rfl⟩; clear T7c q; have T8 := trivial)
      | (have q := T8; go_at_call 12; refine (fits_len _ _ _ ES (ES.length : Int) te rfl _ S2.out _ hfe.out).mono ?_; rintro e w3 ⟨rfl, rfl⟩; clear T8 q; have T9 := trivial)
      | (have q := T9; go_at_call 12; refine (fits_len _ _ _ ES 0 0 rfl _ S2.out _ (fits_zero ES)).mono ?_; rintro e w3 ⟨rfl, rfl⟩; clear T9 q; have T10 := trivial)
      | (have q := T10; go_at_call 26; refine (llast_len _ _ _ ES rfl _ S2.out te TE.out).mono ?_; rintro e w3 ⟨rfl, rfl⟩; clear T10 q; have T11 := trivial)
      | (have q := T11; go_at_call 14; refine (newer_len _ _ _ ES (ES.length : Int) te rfl _ S2.out _ hne.out).mono ?_; rintro e w3 ⟨rfl, rfl⟩; clear T11 q; have T12 := trivial)
      | (have q := T12; go_at_call 16; refine (works_any _).mono ?_; rintro e w10 ⟨rfl, b10⟩; clear T12 q))
    go_ret
    exact retB rfl (grew_trans B2.out b10)
end Go.Proofs.Ythfchmdfoaiibaa
