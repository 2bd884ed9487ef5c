/- The small functions: last terms, what fits, what is newer, which guid is above. -/
import Derived.Test.YthfchmdfoaiibaaEnt
namespace Go.Proofs.Ythfchmdfoaiibaa
open Go.RowKit Go.Joins

/-! ### Plain -/
def lastT (es : List Ent) : Int := if es.length = 0 then 0 else (es.getD (es.length - 1) default).1
def aboveB (x y : Gid) : Bool := decide (y.1 < x.1) || (decide (x.1 = y.1) && decide (y.2 < x.2))
def fitsB (es : List Ent) (prev term : Int) : Bool := decide (0 ≤ prev) && decide (prev ≤ es.length) && decide (lastT (es.take prev.toNat) = term) && (decide (0 < prev) || decide (term = 0))
def newerB (term n : Int) (es : List Ent) : Bool := decide (lastT es < term) || (decide (term = lastT es) && decide ((es.length : Int) ≤ n))
theorem ents_take {w : World} {a : Option Addr} {es : List Ent} (h : Ents w a es) (n : Nat) : Ents w a (es.take n) := by
  intro i hi
  simp only [List.length_take] at hi
  obtain ⟨b, off, e, hc⟩ := h i (by omega)
  refine ⟨b, off, e, ?_⟩
  rw [show (es.take n).getD i default = es.getD i default by simp [List.getD, show i < n by omega]]
  exact hc
def SameU (n : Int) (w : World) (e : Ending) (w' : World) : Prop := e = .returned (.int .u64 n) ∧ w = w'
theorem sameU {a b : Int} {w : World} (h : a = b) : SameU b w (.returned (.int .u64 a)) w := ⟨by rw [h], rfl⟩

set_option maxRecDepth 100000 in
theorem last_any (a : Option Addr) (cap : Nat) (es : List Ent) (w : World) (hE : Ents w a es) (hlen : es.length ≤ maxLen) :
    Calls Try.prog 34 #[.slice a es.length cap] w (SameU (lastT es) w) := by
  unfold maxLen at hlen
  by_cases h0 : es.length = 0
  · have hL : Hid (0 = lastT es) := by rw [Hid, lastT, if_pos h0]
    rw [h0]
    clear h0 hE
    go_enter Try.func34, Try.ntmps34
    go_wp2
    go_ret
    exact sameU hL.out
  · have hL : Hid ((es.getD (es.length - 1) default).1 = lastT es) := by rw [Hid, lastT, if_neg h0]
    obtain ⟨b, off, rfl, h1, -⟩ := hE (es.length - 1) (by omega)
    generalize (es.getD (es.length - 1) default).1 = t at h1 hL
    have hb : ((es.length : Int) == 0) = false := by simp; intro h; simp [h] at h0
    have hp : 0 < es.length := by omega
    clear h0 hE
    go_enter Try.func34, Try.ntmps34
    go_wp2
    go_ret
    exact sameU hL.out
set_option maxRecDepth 100000 in
theorem rlast_any (a : Option Addr) (cap : Nat) (es : List Ent) (w : World) (hE : Ents w a es) (hlen : es.length ≤ maxLen) :
    Calls Try.prog 35 #[.slice a es.length cap] w (SameU (lastT es) w) := by
  unfold maxLen at hlen
  by_cases h0 : es.length = 0
  · have hL : Hid (0 = lastT es) := by rw [Hid, lastT, if_pos h0]
    rw [h0]
    clear h0 hE
    go_enter Try.func35, Try.ntmps35
    go_wp2
    go_ret
    exact sameU hL.out
  · have hL : Hid ((es.getD (es.length - 1) default).1 = lastT es) := by rw [Hid, lastT, if_neg h0]
    obtain ⟨b, off, rfl, h1, -⟩ := hE (es.length - 1) (by omega)
    generalize (es.getD (es.length - 1) default).1 = t at h1 hL
    have hb : ((es.length : Int) == 0) = false := by simp; intro h; simp [h] at h0
    have hp : 0 < es.length := by omega
    clear h0 hE
    go_enter Try.func35, Try.ntmps35
    go_wp2
    go_ret
    exact sameU hL.out
theorem last_len (a : Option Addr) (cap n : Nat) (es : List Ent) (hn : es.length = n) (w : World) (hE : Ents w a es) (hlen : es.length ≤ maxLen) : Calls Try.prog 34 #[.slice a n cap] w (SameU (lastT es) w) := by subst hn; exact last_any a cap es w hE hlen

set_option maxRecDepth 100000 in
theorem fits_any (a : Option Addr) (cap : Nat) (es : List Ent) (prev term : Int) (w : World) (hE : Ents w a es) (hlen : es.length ≤ cap) (hcap : cap ≤ maxLen) :
    Calls Try.prog 12 #[.slice a es.length cap, .int .i64 prev, .int .u64 term] w (SameB (fitsB es prev term) w) := by
  have hl0 : es.length ≤ maxLen := by omega
  unfold maxLen at hcap
  by_cases h1 : 0 ≤ prev ∧ prev ≤ es.length
  · obtain ⟨p, rfl⟩ := Int.eq_ofNat_of_zero_le h1.1
    have hp : p ≤ es.length := by omega
    have hlast := Lib.hid (last_len a cap p (es.take p) (by simp; omega) w (ents_take hE p) (by simp; unfold maxLen at hl0 ⊢; omega))
    have hF : Hid (fitsB es (p : Int) term = (decide (lastT (es.take p) = term) && (decide (0 < p) || decide (term = 0)))) := by
      rw [Hid, fitsB, Int.toNat_natCast]
      simp [hp]
    generalize lastT (es.take p) = t at hlast hF
    have hb0 : ((p : Int) ≤ (es.length : Int)) := by omega
    clear h1 hE hl0
    by_cases ht : t = term
    · subst ht
      by_cases hp0 : 0 < p
      · have hpi : 0 < (p : Int) := by omega
        go_enter Try.func12, Try.ntmps12
        go_wp2_with (go_at_call 34; refine hlast.out.mono ?_; rintro e w1 ⟨rfl, rfl⟩)
        go_ret
        exact sameB (by rw [hF.out]; simp [hp0])
      · obtain rfl : p = 0 := by omega
        go_enter Try.func12, Try.ntmps12
        go_wp2_with (go_at_call 34; refine hlast.out.mono ?_; rintro e w1 ⟨rfl, rfl⟩)
        go_ret
        exact sameB (by rw [hF.out]; simp; try rfl)
    · have hq : (t == term) = false := by simpa using ht
      have HT := Lib.hid ht
      clear ht
      go_enter Try.func12, Try.ntmps12
      go_wp2_with (go_at_call 34; refine hlast.out.mono ?_; rintro e w1 ⟨rfl, rfl⟩)
      go_ret
      exact sameB (by rw [hF.out]; simp [HT.out])
  · have hF : Hid (false = fitsB es prev term) := by
      rw [Hid, fitsB]
      by_cases h2 : 0 ≤ prev
      · have h3 : ¬ prev ≤ es.length := by omega
        simp [h2, h3]
      · simp [h2]
    by_cases h2 : 0 ≤ prev
    · have h3 : (es.length : Int) < prev := by omega
      clear h1
      go_enter Try.func12, Try.ntmps12
      go_wp2
      go_ret
      exact sameB hF.out
    · have h3 : prev < 0 := by omega
      clear h1 h2
      go_enter Try.func12, Try.ntmps12
      go_wp2
      go_ret
      exact sameB hF.out
end Go.Proofs.Ythfchmdfoaiibaa
