/- LeaA: small texts laid together. -/
import Derived.Test.YtcleaamjfjnkkaaLibA
import Derived.Test.YtcleaamjfjnkkaaProg
import Derived.WalkKit
import Derived.WalkSpells
import Derived.WalkLawsBesides
import Derived.Lib.Hide
import Derived.BigQuiet
import Derived.Deep.QuietTactic
/- Contracts of the leaf functions of layer 15: lease.later, lease.Holds, lease.Waits, lease.Timeout, and the reference's. -/
namespace Go.Proofs.Ytcleaamjfjnkkaa
open Go.RowKit

/-- a time and some ticks; the greatest number where there is none. -/
def laterS (t k : Int) : Int := if t ≤ 9223372036854775807 - k then t + k else 9223372036854775807

set_option maxHeartbeats 400000 in
theorem later_any (t k : Int) (w : World) (h0 : 0 ≤ k) (h1 : k ≤ 100) (ht : -9223372036854775808 ≤ t) (ht2 : t ≤ 9223372036854775807) :
    Calls Try.prog 58 #[.int .i64 t, .int .i64 k] w (RetI (laterS t k) w) := by
  by_cases h : t ≤ 9223372036854775807 - k
  · go_enter Try.func58, Try.ntmps58
    go_wp2
    go_ret
    exact retI (by unfold laterS; rw [if_pos h]) (by repeat (first | exact Below.refl _ _ | refine Below.drew ?_ | refine Below.alloc ?_ (by simp) _))
  · go_enter Try.func58, Try.ntmps58
    go_wp2
    go_ret
    exact retI (by unfold laterS; rw [if_neg (by omega)]) (by repeat (first | exact Below.refl _ _ | refine Below.drew ?_ | refine Below.alloc ?_ (by simp) _))

theorem holds_any (u n : Int) (w : World) : Calls Try.prog 51 #[.int .i64 u, .int .i64 n] w fun e w' => e = .returned (.bool (decide (n < u))) ∧ w = w' := by
  go_enter Try.func51, Try.ntmps51
  go_wp2
  go_ret
  exact ⟨rfl, rfl⟩

/-- whether a follower waits. -/
def waitsS (h n : Int) : Bool := decide (9223372036854775783 < h) || decide (n < h + 24)

theorem waits_yes {h n : Int} (c : 9223372036854775783 < h ∨ n < h + 24) : waitsS h n = true := by
  simp only [waitsS, Bool.or_eq_true, decide_eq_true_eq]; omega
theorem waits_no {h n : Int} (c : h ≤ 9223372036854775783) (d : h + 24 ≤ n) : waitsS h n = false := by
  simp only [waitsS, Bool.or_eq_false_iff, decide_eq_false_iff_not]; omega

theorem waits_or (h n : Int) : (decide (n < h + 24) || decide (9223372036854775783 < h)) = waitsS h n := by unfold waitsS; rw [Bool.or_comm]

set_option maxHeartbeats 400000 in
theorem waits_any (h n : Int) (w : World) (h1 : -9223372036854775808 ≤ h) (h2 : h ≤ 9223372036854775807) :
    Calls Try.prog 40 #[.int .i64 h, .int .i64 n] w (RetB (waitsS h n) w) := by
  by_cases c : 9223372036854775783 < h
  · have hl : laterS h 24 = 9223372036854775807 := by unfold laterS; rw [if_neg (by omega)]
    by_cases c2 : n < laterS h 24
    · go_enter Try.func40, Try.ntmps40
      go_wp2_with (go_at_call 58; refine (later_any _ _ _ (by omega) (by omega) (by omega) (by omega)).mono ?_; rintro e w' ⟨rfl, hb⟩)
      go_ret
      exact retB (waits_yes (.inl c)).symm (by assumption)
    · go_enter Try.func40, Try.ntmps40
      go_wp2_with (go_at_call 58; refine (later_any _ _ _ (by omega) (by omega) (by omega) (by omega)).mono ?_; rintro e w' ⟨rfl, hb⟩)
      go_ret
      exact retB (waits_yes (.inl c)).symm (by assumption)
  · have hl : laterS h 24 = h + 24 := by unfold laterS; rw [if_pos (by omega)]
    by_cases c2 : n < h + 24
    · go_enter Try.func40, Try.ntmps40
      go_wp2_with (go_at_call 58; refine (later_any _ _ _ (by omega) (by omega) (by omega) (by omega)).mono ?_; rintro e w' ⟨rfl, hb⟩)
      go_ret
      exact retB (waits_yes (.inr c2)).symm (by assumption)
    · go_enter Try.func40, Try.ntmps40
      go_wp2_with (go_at_call 58; refine (later_any _ _ _ (by omega) (by omega) (by omega) (by omega)).mono ?_; rintro e w' ⟨rfl, hb⟩)
      go_ret
      exact retB (waits_or h n) (by assumption)

/-- a timeout. -/
def timeoutS (d : Int) : Int := 30 + (max d 0) % 16

set_option maxHeartbeats 400000 in
theorem timeout_any (d : Int) (w : World) (h1 : -9223372036854775808 ≤ d) (h2 : d ≤ 9223372036854775807) :
    Calls Try.prog 30 #[.int .i64 d] w (SameI (timeoutS d) w) := by
  by_cases c : 0 ≤ d
  · have hw := Lib.hid (show timeoutS d = 30 + d % 16 by unfold timeoutS; omega)
    go_enter Try.func30, Try.ntmps30
    go_wp2
    go_ret
    exact sameI hw.out.symm
  · have hw := Lib.hid (show timeoutS d = 30 by unfold timeoutS; omega)
    go_enter Try.func30, Try.ntmps30
    go_wp2
    go_ret
    exact sameI hw.out.symm
end Go.Proofs.Ytcleaamjfjnkkaa
/- Plain mathematics of leases: the second greatest of a time and some others, as the program reckons it and as the document defines it. -/
namespace Go.Proofs.Ytcleaamjfjnkkaa

/-- what 'second' keeps: the first, the next, whether there is one. -/
structure Sec where
  first : Int
  next : Int
  is : Bool

def Sec.step (s : Sec) (t : Int) : Sec :=
  if t < 0 then s
  else if s.is = false ∨ s.next < min t s.first then ⟨max t s.first, min t s.first, true⟩
  else ⟨max t s.first, s.next, s.is⟩

def secS (first : Int) (l : List Int) : Sec := l.foldl Sec.step ⟨first, 0, false⟩

/-- the reference's: the two greatest. -/
def topStep (p : Int × Int) (x : Int) : Int × Int :=
  if p.1 < x then (x, p.1) else if p.2 < x then (p.1, x) else p

def pos (l : List Int) : List Int := l.filter fun t => decide (0 ≤ t)

def topS (now : Int) : List Int → Int × Int
  | [] => (now, now)
  | x :: r => r.foldl topStep (if now < x then (x, now) else (now, x))

theorem sec_pos (l : List Int) : ∀ s : Sec, l.foldl Sec.step s = (pos l).foldl Sec.step s := by
  induction l with
  | nil => intro s; rfl
  | cons t l ih =>
    intro s
    by_cases h : 0 ≤ t
    · simp only [pos, List.filter_cons, h, decide_true, if_true, List.foldl_cons]; exact ih _
    · simp only [pos, List.filter_cons, h, decide_false, List.foldl_cons, Bool.false_eq_true, if_false]
      rw [show s.step t = s by simp [Sec.step, show t < 0 by omega]]; exact ih _

theorem step_true (f n t : Int) (h : 0 ≤ t) : Sec.step ⟨f, n, true⟩ t = ⟨max t f, max n (min t f), true⟩ := by
  unfold Sec.step
  rw [if_neg (by omega)]
  by_cases c : n < min t f
  · rw [if_pos (.inr c)]; simp only [Sec.mk.injEq, and_true, true_and]; omega
  · rw [if_neg (by simp; omega)]; simp only [Sec.mk.injEq, and_true, true_and]; omega

theorem sec_top (l : List Int) (hl : ∀ t ∈ l, 0 ≤ t) : ∀ (f n : Int), n ≤ f →
    l.foldl Sec.step ⟨f, n, true⟩ = ⟨(l.foldl topStep (f, n)).1, (l.foldl topStep (f, n)).2, true⟩ := by
  induction l with
  | nil => intro f n _; rfl
  | cons t l ih =>
    intro f n hn
    have ht := hl t (by simp)
    have hr := ih (fun x hx => hl x (by simp [hx]))
    simp only [List.foldl_cons]
    by_cases h1 : f < t
    · have e1 : topStep (f, n) t = (t, f) := by simp [topStep, h1]
      rw [e1]
      by_cases h2 : n < f
      · rw [show Sec.step ⟨f, n, true⟩ t = ⟨t, f, true⟩ by rw [step_true _ _ _ ht]; simp only [Sec.mk.injEq, and_true]; omega]; exact hr _ _ (by omega)
      · obtain rfl : n = f := by omega
        rw [show Sec.step ⟨n, n, true⟩ t = ⟨t, n, true⟩ by rw [step_true _ _ _ ht]; simp only [Sec.mk.injEq, and_true]; omega]; exact hr _ _ (by omega)
    · by_cases h2 : n < t
      · rw [show topStep (f, n) t = (f, t) by simp [topStep, h1, h2], show Sec.step ⟨f, n, true⟩ t = ⟨f, t, true⟩ by rw [step_true _ _ _ ht]; simp only [Sec.mk.injEq, and_true]; omega]; exact hr _ _ (by omega)
      · rw [show topStep (f, n) t = (f, n) by simp [topStep, h1, h2], show Sec.step ⟨f, n, true⟩ t = ⟨f, n, true⟩ by rw [step_true _ _ _ ht]; simp only [Sec.mk.injEq, and_true]; omega]; exact hr _ _ (by omega)

theorem sec_is (l : List Int) (now : Int) : (secS now l).is = !(pos l).isEmpty := by
  unfold secS
  rw [sec_pos]
  have hp : ∀ t ∈ pos l, 0 ≤ t := by intro t ht; simp [pos] at ht; exact ht.2
  generalize pos l = q at *
  cases q with
  | nil => rfl
  | cons t q =>
    have := hp t (by simp)
    simp only [List.foldl_cons, List.isEmpty_cons, Bool.not_false]
    rw [show Sec.step ⟨now, 0, false⟩ t = ⟨max t now, min t now, true⟩ by simp [Sec.step]; omega]
    rw [sec_top q (fun x hx => hp x (by simp [hx])) _ _ (by omega)]

theorem sec_next (l : List Int) (now : Int) (h : pos l ≠ []) : (secS now l).next = (topS now (pos l)).2 := by
  unfold secS
  rw [sec_pos]
  have hp : ∀ t ∈ pos l, 0 ≤ t := by intro t ht; simp [pos] at ht; exact ht.2
  generalize pos l = q at *
  cases q with
  | nil => exact absurd rfl h
  | cons t q =>
    have := hp t (by simp)
    simp only [List.foldl_cons, topS]
    rw [show Sec.step ⟨now, 0, false⟩ t = ⟨max t now, min t now, true⟩ by simp [Sec.step]; omega]
    rw [sec_top q (fun x hx => hp x (by simp [hx])) _ _ (by omega)]
    by_cases hn : now < t
    · rw [if_pos hn, show max t now = t by omega, show min t now = now by omega]
    · rw [if_neg hn, show max t now = now by omega, show min t now = t by omega]

end Go.Proofs.Ytcleaamjfjnkkaa
/- The walk of lease.second. -/
namespace Go.Proofs.Ytcleaamjfjnkkaa
open Go.RowKit

theorem take_step (xs : List Int) (s : Sec) (k : Nat) (h : k < xs.length) : (xs.take (k + 1)).foldl Sec.step s = ((xs.take k).foldl Sec.step s).step (xs.getD k 0) := by
  rw [List.take_succ_eq_append_getElem h, List.foldl_append]
  simp [h]

theorem step_false_lt (fi ne t : Int) (c1 : ¬ t < 0) (c2 : t < fi) : Sec.step ⟨fi, ne, false⟩ t = ⟨fi, t, true⟩ := by
  unfold Sec.step; rw [if_neg c1, if_pos (.inl rfl)]; simp only [Sec.mk.injEq, and_true]; omega
theorem step_yes_lt (fi ne t : Int) (c1 : ¬ t < 0) (c2 : t < fi) (c3 : ne < t) : Sec.step ⟨fi, ne, true⟩ t = ⟨fi, t, true⟩ := by
  unfold Sec.step; rw [if_neg c1, if_pos (.inr (by simp only; omega))]; simp only [Sec.mk.injEq, and_true]; omega
theorem step_no_lt (fi ne t : Int) (c1 : ¬ t < 0) (c2 : t < fi) (c3 : ¬ ne < t) : Sec.step ⟨fi, ne, true⟩ t = ⟨fi, ne, true⟩ := by
  unfold Sec.step; rw [if_neg c1, if_neg (by simp only [Bool.true_eq_false, false_or]; omega)]; simp only [Sec.mk.injEq, and_true]; omega
theorem step_false_eq (fi ne t : Int) (c1 : ¬ t < 0) (c2 : t = fi) : Sec.step ⟨fi, ne, false⟩ t = ⟨t, t, true⟩ := by
  unfold Sec.step; rw [if_neg c1, if_pos (.inl rfl)]; simp only [Sec.mk.injEq, and_true]; omega
theorem step_yes_eq (fi ne t : Int) (c1 : ¬ t < 0) (c2 : t = fi) (c3 : ne < t) : Sec.step ⟨fi, ne, true⟩ t = ⟨t, t, true⟩ := by
  unfold Sec.step; rw [if_neg c1, if_pos (.inr (by simp only; omega))]; simp only [Sec.mk.injEq, and_true]; omega
theorem step_no_eq (fi ne t : Int) (c1 : ¬ t < 0) (c2 : t = fi) (c3 : ¬ ne < t) : Sec.step ⟨fi, ne, true⟩ t = ⟨t, ne, true⟩ := by
  unfold Sec.step; rw [if_neg c1, if_neg (by simp only [Bool.true_eq_false, false_or]; omega)]; simp only [Sec.mk.injEq, and_true]; omega
theorem step_false_ge (fi ne t : Int) (c1 : ¬ t < 0) (c2 : fi < t) : Sec.step ⟨fi, ne, false⟩ t = ⟨t, fi, true⟩ := by
  unfold Sec.step; rw [if_neg c1, if_pos (.inl rfl)]; simp only [Sec.mk.injEq, and_true]; omega
theorem step_yes_ge (fi ne t : Int) (c1 : ¬ t < 0) (c2 : fi < t) (c3 : ne < fi) : Sec.step ⟨fi, ne, true⟩ t = ⟨t, fi, true⟩ := by
  unfold Sec.step; rw [if_neg c1, if_pos (.inr (by simp only; omega))]; simp only [Sec.mk.injEq, and_true]; omega
theorem step_no_ge (fi ne t : Int) (c1 : ¬ t < 0) (c2 : fi < t) (c3 : ¬ ne < fi) : Sec.step ⟨fi, ne, true⟩ t = ⟨t, ne, true⟩ := by
  unfold Sec.step; rw [if_neg c1, if_neg (by simp only [Bool.true_eq_false, false_or]; omega)]; simp only [Sec.mk.injEq, and_true]; omega

def Ret2 (n : Int) (b : Bool) (w : World) (e : Ending) (w' : World) : Prop := e = .returned (.tuple #[.int .i64 n, .bool b]) ∧ w = w'
theorem ret2 {a n : Int} {b c : Bool} {w : World} (h : a = n) (g : b = c) : Ret2 n c w (.returned (.tuple #[.int .i64 a, .bool b])) w := ⟨by rw [h, g], rfl⟩

set_option maxHeartbeats 1000000 in
theorem second_any (f : Int) (a : Option Addr) (cap : Nat) (xs : List Int) (w : World) (hm : xs.length ≤ maxLen) (hc : Row w a xs) :
    Calls Try.prog 60 #[.int .i64 f, .slice a xs.length cap] w (Ret2 (secS f xs).next (secS f xs).is w) := by
  unfold maxLen at hm
  have hfin : (xs.take xs.length).foldl Sec.step ⟨f, 0, false⟩ = secS f xs := by rw [List.take_length]; rfl
  have Hfin := Lib.hid hfin; clear hfin
  have Hc : Hid (Row w a xs) := hc
  clear hc
  go_enter Try.func60, Try.ntmps60
  go_wp2
  go_loop [0, 6, 7, 13] (fun v0 v6 v7 v13 => ∃ k : Nat, k ≤ xs.length ∧ v13 = .int .i64 k ∧ v0 = .int .i64 ((xs.take k).foldl Sec.step ⟨f, 0, false⟩).first ∧ v6 = .int .i64 ((xs.take k).foldl Sec.step ⟨f, 0, false⟩).next ∧ v7 = .bool ((xs.take k).foldl Sec.step ⟨f, 0, false⟩).is)
    (fun _ _ _ i => xs.length - (intOf i).toNat)
  case atStart => exact ⟨0, Nat.zero_le _, rfl, rfl, rfl, rfl⟩
  case round =>
    obtain ⟨k, hk, rfl, rfl, rfl, rfl⟩ := hrel
    by_cases hlt : k < xs.length
    · obtain ⟨b, off, rfl, hcell⟩ := Hc.out k hlt
      have hts := Lib.hid (take_step xs ⟨f, 0, false⟩ k hlt)
      generalize hS : (xs.take k).foldl Sec.step ⟨f, 0, false⟩ = S at hts ⊢
      clear hS
      generalize xs.getD k 0 = t at hts hcell
      obtain ⟨fi, ne, is⟩ := S
      by_cases c1 : t < 0
      · have h2 : Sec.step ⟨fi, ne, is⟩ t = ⟨fi, ne, is⟩ := by simp [Sec.step, c1]
        have H2 := Lib.hid h2; clear h2
        go_wp2
        go_round
        case rel => exact ⟨k + 1, by omega, by go_num, by rw [hts.out, H2.out], by rw [hts.out, H2.out], by rw [hts.out, H2.out]⟩
        case measure => simp [intOf]; omega
      · rcases Int.lt_trichotomy t fi with c2 | rfl | c2
        · cases is with
          | false =>
            have H2 := Lib.hid (step_false_lt fi ne t c1 c2)
            go_wp2
            go_round
            case rel => exact ⟨k + 1, by omega, by go_num, by rw [hts.out, H2.out], by rw [hts.out, H2.out], by rw [hts.out, H2.out]⟩
            case measure => simp [intOf]; omega
          | true =>
            by_cases c3 : ne < t
            · have H2 := Lib.hid (step_yes_lt fi ne t c1 c2 c3)
              go_wp2
              go_round
              case rel => exact ⟨k + 1, by omega, by go_num, by rw [hts.out, H2.out], by rw [hts.out, H2.out], by rw [hts.out, H2.out]⟩
              case measure => simp [intOf]; omega
            · have H2 := Lib.hid (step_no_lt fi ne t c1 c2 c3)
              go_wp2
              go_round
              case rel => exact ⟨k + 1, by omega, by go_num, by rw [hts.out, H2.out], by rw [hts.out, H2.out], by rw [hts.out, H2.out]⟩
              case measure => simp [intOf]; omega
        · cases is with
          | false =>
            have H2 := Lib.hid (step_false_eq t ne t c1 rfl)
            go_wp2
            go_round
            case rel => exact ⟨k + 1, by omega, by go_num, by rw [hts.out, H2.out], by rw [hts.out, H2.out], by rw [hts.out, H2.out]⟩
            case measure => simp [intOf]; omega
          | true =>
            by_cases c3 : ne < t
            · have H2 := Lib.hid (step_yes_eq t ne t c1 rfl c3)
              go_wp2
              go_round
              case rel => exact ⟨k + 1, by omega, by go_num, by rw [hts.out, H2.out], by rw [hts.out, H2.out], by rw [hts.out, H2.out]⟩
              case measure => simp [intOf]; omega
            · have H2 := Lib.hid (step_no_eq t ne t c1 rfl c3)
              go_wp2
              go_round
              case rel => exact ⟨k + 1, by omega, by go_num, by rw [hts.out, H2.out], by rw [hts.out, H2.out], by rw [hts.out, H2.out]⟩
              case measure => simp [intOf]; omega
        · cases is with
          | false =>
            have H2 := Lib.hid (step_false_ge fi ne t c1 c2)
            go_wp2
            go_round
            case rel => exact ⟨k + 1, by omega, by go_num, by rw [hts.out, H2.out], by rw [hts.out, H2.out], by rw [hts.out, H2.out]⟩
            case measure => simp [intOf]; omega
          | true =>
            by_cases c3 : ne < fi
            · have H2 := Lib.hid (step_yes_ge fi ne t c1 c2 c3)
              go_wp2
              go_round
              case rel => exact ⟨k + 1, by omega, by go_num, by rw [hts.out, H2.out], by rw [hts.out, H2.out], by rw [hts.out, H2.out]⟩
              case measure => simp [intOf]; omega
            · have H2 := Lib.hid (step_no_ge fi ne t c1 c2 c3)
              go_wp2
              go_round
              case rel => exact ⟨k + 1, by omega, by go_num, by rw [hts.out, H2.out], by rw [hts.out, H2.out], by rw [hts.out, H2.out]⟩
              case measure => simp [intOf]; omega
    · go_wp2
      go_ret2
      obtain rfl : k = xs.length := by omega
      exact ret2 (by rw [Hfin.out]) (by rw [Hfin.out])
end Go.Proofs.Ytcleaamjfjnkkaa
/- The walk of the reference's Until. -/
namespace Go.Proofs.Ytcleaamjfjnkkaa
open Go.RowKit

theorem Try.info2 : (Try.prog.info? 2).map (fun i => (i.zero, i.size, i.bytes)) = some (some (.int .i64 0), 1, 8) := by kernel_rfl

theorem pos_step (xs : List Int) (k : Nat) (h : k < xs.length) : pos (xs.take (k + 1)) = pos (xs.take k) ++ (if 0 ≤ xs.getD k 0 then [xs.getD k 0] else []) := by
  rw [List.take_succ_eq_append_getElem h]
  unfold pos
  rw [List.filter_append]
  by_cases c : 0 ≤ xs[k] <;> simp [h, c]
theorem pos_len (xs : List Int) (k : Nat) : (pos (xs.take k)).length ≤ k := Nat.le_trans (List.length_filter_le _ _) (List.length_take_le _ _)

/-- what the document says. -/
def untilR (now : Int) (xs : List Int) : Int := if pos xs = [] then 0 else laterS (topS now (pos xs)).2 20

theorem topS_in (lo hi : Int) (now : Int) (q : List Int) (hn : lo ≤ now ∧ now ≤ hi) (hq : ∀ t ∈ q, lo ≤ t ∧ t ≤ hi) : (lo ≤ (topS now q).1 ∧ (topS now q).1 ≤ hi) ∧ lo ≤ (topS now q).2 ∧ (topS now q).2 ≤ hi := by
  have key : ∀ (q : List Int) (p : Int × Int), (∀ t ∈ q, lo ≤ t ∧ t ≤ hi) → (lo ≤ p.1 ∧ p.1 ≤ hi) → (lo ≤ p.2 ∧ p.2 ≤ hi) →
      (lo ≤ (q.foldl topStep p).1 ∧ (q.foldl topStep p).1 ≤ hi) ∧ lo ≤ (q.foldl topStep p).2 ∧ (q.foldl topStep p).2 ≤ hi := by
    intro q
    induction q with
    | nil => intro p _ h1 h2; exact ⟨h1, h2⟩
    | cons t q ih =>
      intro p hq h1 h2
      have ht := hq t (by simp)
      simp only [List.foldl_cons]
      refine ih _ (fun x hx => hq x (by simp [hx])) ?_ ?_
      · unfold topStep; split
        · exact ht
        · split <;> exact h1
      · unfold topStep; split
        · exact h1
        · split
          · exact ht
          · exact h2
  cases q with
  | nil => exact ⟨hn, hn⟩
  | cons t q =>
    have ht := hq t (by simp)
    unfold topS
    refine key q _ (fun x hx => hq x (by simp [hx])) ?_ ?_
    · split
      · exact ht
      · exact hn
    · split
      · exact hn
      · exact ht

theorem top_take (xs : List Int) (s : Int × Int) (k : Nat) (h : k < xs.length) : (xs.take (k + 1)).foldl topStep s = topStep ((xs.take k).foldl topStep s) (xs.getD k 0) := by
  rw [List.take_succ_eq_append_getElem h, List.foldl_append]
  simp [h]

def RetI0 (n : Int) (w : World) (e : Ending) (w' : World) : Prop := e = .returned (.int .i64 n) ∧ Below w.heap.size w w'
end Go.Proofs.Ytcleaamjfjnkkaa
/- The walks of lease.Until and of the laws' own 'works'. -/
namespace Go.Proofs.Ytcleaamjfjnkkaa
open Go.RowKit

set_option maxHeartbeats 1000000 in
theorem until_any (now : Int) (a : Option Addr) (cap : Nat) (xs : List Int) (w : World) (hm : xs.length ≤ 1000) (hc : Row w a xs)
    (hn1 : -9223372036854775808 ≤ now) (hn2 : now ≤ 9223372036854775807) (hx : ∀ t ∈ xs, -9223372036854775808 ≤ t ∧ t ≤ 9223372036854775807) :
    Calls Try.prog 44 #[.slice a xs.length cap, .int .i64 now] w (RetI (untilR now xs) w) := by
  have Hc := Lib.hid hc
  have His := Lib.hid (sec_is xs now)
  have Hq : Hid (∀ t ∈ pos xs, -9223372036854775808 ≤ t ∧ t ≤ 9223372036854775807) := fun t ht => hx t (List.mem_filter.1 ht).1
  have Hnx := Lib.hid (sec_next xs now)
  have Hun : Hid (untilR now xs = if pos xs = [] then 0 else laterS (topS now (pos xs)).2 20) := rfl
  clear hc hx
  generalize hS : secS now xs = S at *
  have HS := Lib.hid hS
  clear hS
  obtain ⟨f, n, is⟩ := S
  have hm' : xs.length ≤ maxLen := by unfold maxLen; omega
  by_cases hp : pos xs = []
  · obtain rfl : is = false := by have := His.out; simp only [hp] at this; exact this
    rw [if_pos hp] at Hun
    clear hp
    go_enter Try.func44, Try.ntmps44
    go_wp2_with (go_at_call 60; refine (second_any _ _ _ _ _ hm' Hc.out).mono ?_; rintro e w' ⟨rfl, rfl⟩; rw [HS.out])
    go_ret
    exact retI Hun.out.symm (Below.refl _ _)
  · obtain rfl : is = true := by
      have := His.out; simp only [] at this; rw [this]; simp [hp]
    have hn : n = (topS now (pos xs)).2 := Hnx.out hp
    have hb := (topS_in (-9223372036854775808) 9223372036854775807 now (pos xs) ⟨hn1, hn2⟩ Hq.out).2
    rw [← hn] at hb
    rw [if_neg hp, ← hn] at Hun
    clear hn hp
    go_enter Try.func44, Try.ntmps44
    go_wp2_with (first | (go_at_call 60; refine (second_any _ _ _ _ _ hm' Hc.out).mono ?_; rintro e w' ⟨rfl, rfl⟩; rw [HS.out]) | (go_at_call 58; refine (later_any _ _ _ (by omega) (by omega) (by omega) (by omega)).mono ?_; rintro e w' ⟨rfl, hb⟩))
    go_ret
    exact retI Hun.out.symm (by assumption)

theorem untilW : untilR 12 [10, -1] = 30 := by decide
theorem timeoutW : timeoutS 17 = 31 := by decide
theorem waitsW1 : waitsS 10 33 = true := by decide
theorem waitsW2 : waitsS 10 34 = false := by decide
end Go.Proofs.Ytcleaamjfjnkkaa
