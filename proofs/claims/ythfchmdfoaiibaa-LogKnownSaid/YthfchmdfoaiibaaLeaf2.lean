/- The small functions, further: the references', guids, entries that may be. -/
import Derived.Test.YthfchmdfoaiibaaLeaf
namespace Go.Proofs.Ythfchmdfoaiibaa
open Go.RowKit Go.Joins

theorem rlast_len (a : Option Addr) (cap n : Nat) (es : List Ent) (hn : es.length = n) (w : World) (hE : Ents w a es) (hlen : es.length ≤ maxLen) : Calls Try.prog 35 #[.slice a n cap] w (SameU (lastT es) w) := by subst hn; exact rlast_any a cap es w hE hlen
theorem lastT_take {es : List Ent} {p : Nat} (h0 : 0 < p) (hp : p ≤ es.length) : lastT (es.take p) = (es.getD (p - 1) default).1 := by
  rw [lastT, if_neg (by rw [List.length_take]; omega)]
  congr 1
  simp only [List.length_take, Nat.min_eq_left hp, List.getD_eq_getElem?_getD]
  rw [List.getElem?_take_of_lt (by omega)]
theorem lastT_nil : lastT [] = 0 := rfl

set_option maxRecDepth 100000 in
theorem rfits_any (a : Option Addr) (cap : Nat) (es : List Ent) (prev term : Int) (w : World) (hE : Ents w a es) (hlen : es.length ≤ maxLen) :
    Calls Try.prog 13 #[.slice a es.length cap, .int .i64 prev, .int .u64 term] w (SameB (fitsB es prev term) w) := by
  unfold maxLen at hlen
  by_cases h0 : prev = 0
  · subst h0
    have hF : Hid ((term == 0) = fitsB es 0 term) := by
      rw [Hid, fitsB]
      simp [lastT_nil]
      by_cases h : term = 0
      · simp [h]
      · simp [h]
    go_enter Try.func13, Try.ntmps13
    go_wp2
    go_ret
    exact sameB hF.out
  · have hb : (prev == 0) = false := by simpa using h0
    by_cases h1 : 1 ≤ prev
    · obtain ⟨p, rfl⟩ := Int.eq_ofNat_of_zero_le (show 0 ≤ prev by omega)
      have hp0 : 0 < p := by omega
      by_cases hp : p ≤ es.length
      · have hpi : (p : Int) ≤ (es.length : Int) := by omega
        have hF : Hid (((es.getD (p - 1) default).1 == term) = fitsB es (p : Int) term) := by
          rw [Hid, fitsB, Int.toNat_natCast, lastT_take hp0 hp]
          generalize (es.getD (p - 1) default).1 = t
          by_cases h : t = term <;> simp [h, hp, hp0]
        obtain ⟨b, off, rfl, g1, -⟩ := hE (p - 1) (by omega)
        generalize (es.getD (p - 1) default).1 = t at g1 hF
        clear h0 hE
        go_enter Try.func13, Try.ntmps13
        go_wp2
        go_ret
        exact sameB hF.out
      · have hF : Hid (false = fitsB es (p : Int) term) := by rw [Hid, fitsB]; simp [hp]
        have hpi : (es.length : Int) < (p : Int) := by omega
        clear h0 hp
        go_enter Try.func13, Try.ntmps13
        go_wp2
        go_ret
        exact sameB hF.out
    · have hF : Hid (false = fitsB es prev term) := by rw [Hid, fitsB]; simp [show ¬ 0 ≤ prev by omega]
      have h2 : prev < 1 := by omega
      clear h0 h1
      go_enter Try.func13, Try.ntmps13
      go_wp2
      go_ret
      exact sameB hF.out

set_option maxRecDepth 100000 in
theorem newer_any (a : Option Addr) (cap : Nat) (es : List Ent) (n term : Int) (w : World) (hE : Ents w a es) (hlen : es.length ≤ maxLen) :
    Calls Try.prog 14 #[.int .u64 term, .int .i64 n, .slice a es.length cap] w (SameB (newerB term n es) w) := by
  have hlast := Lib.hid (last_any a cap es w hE hlen)
  have hF : Hid (newerB term n es = (decide (lastT es < term) || (decide (term = lastT es) && decide ((es.length : Int) ≤ n)))) := rfl
  generalize lastT es = t at hlast hF
  unfold maxLen at hlen
  clear hE
  by_cases ht : term = t
  · subst ht
    go_enter Try.func14, Try.ntmps14
    go_wp2_with (go_at_call 34; refine hlast.out.mono ?_; rintro e w1 ⟨rfl, rfl⟩)
    go_ret
    exact sameB (by rw [hF.out]; simp)
  · have hb : (term == t) = false := by simpa using ht
    have hb2 : (term != t) = true := by simpa using ht
    have HT := Lib.hid ht
    clear ht
    go_enter Try.func14, Try.ntmps14
    go_wp2_with (go_at_call 34; refine hlast.out.mono ?_; rintro e w1 ⟨rfl, rfl⟩)
    go_ret
    exact sameB (by rw [hF.out]; simp [HT.out])
set_option maxRecDepth 100000 in
theorem rnewer_any (a : Option Addr) (cap : Nat) (es : List Ent) (n term : Int) (w : World) (hE : Ents w a es) (hlen : es.length ≤ maxLen) :
    Calls Try.prog 15 #[.int .u64 term, .int .i64 n, .slice a es.length cap] w (SameB (newerB term n es) w) := by
  have hlast := Lib.hid (rlast_any a cap es w hE hlen)
  have hF : Hid (newerB term n es = (decide (lastT es < term) || (decide (term = lastT es) && decide ((es.length : Int) ≤ n)))) := rfl
  generalize lastT es = t at hlast hF
  unfold maxLen at hlen
  clear hE
  by_cases hlt : t < term
  · go_enter Try.func15, Try.ntmps15
    go_wp2_with (go_at_call 35; refine hlast.out.mono ?_; rintro e w1 ⟨rfl, rfl⟩)
    go_ret
    exact sameB (by rw [hF.out]; simp [hlt])
  · by_cases ht : term = t
    · subst ht
      clear hlt
      go_enter Try.func15, Try.ntmps15
      go_wp2_with (go_at_call 35; refine hlast.out.mono ?_; rintro e w1 ⟨rfl, rfl⟩)
      go_ret
      exact sameB (by rw [hF.out]; simp)
    · have hb : (term == t) = false := by simpa using ht
      have hle : term ≤ t := by omega
      have HT := Lib.hid ht
      clear ht hlt
      go_enter Try.func15, Try.ntmps15
      go_wp2_with (go_at_call 35; refine hlast.out.mono ?_; rintro e w1 ⟨rfl, rfl⟩)
      go_ret
      exact sameB (by rw [hF.out]; simp [HT.out])

set_option maxRecDepth 100000 in
theorem above_law (x1 x2 y1 y2 : Int) (w : World) : Calls Try.prog 23 #[.agg #[.int .u64 x1, .int .u64 x2], .agg #[.int .u64 y1, .int .u64 y2]] w (RetB (aboveB (x1, x2) (y1, y2)) w) := by
  have hF : Hid (aboveB (x1, x2) (y1, y2) = (decide (y1 < x1) || (decide (x1 = y1) && decide (y2 < x2)))) := rfl
  have hb : ∀ (o1 o2 : Obj), Below w.heap.size w ((w.alloc o1).alloc o2) := fun o1 o2 => ((Below.refl _ w).alloc (Nat.le_refl _) o1).alloc (by simp) o2
  have HB := Lib.hid hb
  clear hb
  by_cases h1 : y1 < x1
  · go_enter Try.func23, Try.ntmps23
    go_wp2
    go_ret
    exact retB (by rw [hF.out]; simp [h1]) (HB.out _ _)
  · by_cases h2 : x1 = y1
    · subst h2
      clear h1
      go_enter Try.func23, Try.ntmps23
      go_wp2
      go_ret
      exact retB (by rw [hF.out]; simp) (HB.out _ _)
    · have hb : (x1 == y1) = false := by simpa using h2
      have hle : x1 ≤ y1 := by omega
      have HT := Lib.hid h2
      clear h1 h2
      go_enter Try.func23, Try.ntmps23
      go_wp2
      go_ret
      exact retB (by rw [hF.out]; simp [HT.out]) (HB.out _ _)

set_option maxRecDepth 100000 in
theorem above_any (x1 x2 y1 y2 : Int) (w : World) : Calls Try.prog 40 #[.agg #[.int .u64 x1, .int .u64 x2], .agg #[.int .u64 y1, .int .u64 y2]] w (RetB (aboveB (x1, x2) (y1, y2)) w) := by
  have hF : Hid (aboveB (x1, x2) (y1, y2) = (decide (y1 < x1) || (decide (x1 = y1) && decide (y2 < x2)))) := rfl
  have hb : ∀ (o1 o2 : Obj), Below w.heap.size w ((w.alloc o1).alloc o2) := fun o1 o2 => ((Below.refl _ w).alloc (Nat.le_refl _) o1).alloc (by simp) o2
  have HB := Lib.hid hb
  clear hb
  by_cases h1 : y1 < x1
  · go_enter Try.func40, Try.ntmps40
    go_wp2
    go_ret
    exact retB (by rw [hF.out]; simp [h1]) (HB.out _ _)
  · by_cases h2 : x1 = y1
    · subst h2
      clear h1
      go_enter Try.func40, Try.ntmps40
      go_wp2
      go_ret
      exact retB (by rw [hF.out]; simp) (HB.out _ _)
    · have hb : (x1 == y1) = false := by simpa using h2
      have hle : x1 ≤ y1 := by omega
      have HT := Lib.hid h2
      clear h1 h2
      go_enter Try.func40, Try.ntmps40
      go_wp2
      go_ret
      exact retB (by rw [hF.out]; simp [HT.out]) (HB.out _ _)

set_option maxRecDepth 100000 in
theorem above_ref (x1 x2 y1 y2 : Int) (w : World) : Calls Try.prog 41 #[.agg #[.int .u64 x1, .int .u64 x2], .agg #[.int .u64 y1, .int .u64 y2]] w (RetB (aboveB (x1, x2) (y1, y2)) w) := by
  have hF : Hid (aboveB (x1, x2) (y1, y2) = (decide (y1 < x1) || (decide (x1 = y1) && decide (y2 < x2)))) := rfl
  have hb : ∀ (o1 o2 : Obj), Below w.heap.size w ((w.alloc o1).alloc o2) := fun o1 o2 => ((Below.refl _ w).alloc (Nat.le_refl _) o1).alloc (by simp) o2
  have HB := Lib.hid hb
  clear hb
  by_cases h1 : y1 < x1
  · go_enter Try.func41, Try.ntmps41
    go_wp2
    go_ret
    exact retB (by rw [hF.out]; simp [h1]) (HB.out _ _)
  · by_cases h2 : x1 = y1
    · subst h2
      clear h1
      go_enter Try.func41, Try.ntmps41
      go_wp2
      go_ret
      exact retB (by rw [hF.out]; simp) (HB.out _ _)
    · have hb : (x1 == y1) = false := by simpa using h2
      have hle : x1 ≤ y1 := by omega
      have HT := Lib.hid h2
      clear h1 h2
      go_enter Try.func41, Try.ntmps41
      go_wp2
      go_ret
      exact retB (by rw [hF.out]; simp [HT.out]) (HB.out _ _)
end Go.Proofs.Ythfchmdfoaiibaa
