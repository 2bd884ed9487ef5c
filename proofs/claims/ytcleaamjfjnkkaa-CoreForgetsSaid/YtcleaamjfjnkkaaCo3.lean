/- The small methods, further: the last term, what passed, something for each other voter. -/
import Derived.Test.YtcleaamjfjnkkaaCo2
namespace Go.Proofs.Ytcleaamjfjnkkaa
open Go.RowKit Go.Joins

set_option maxRecDepth 100000 in
theorem clast_any (a : Option Addr) (cap : Nat) (es : List Ent) (w : World) (hE : Ents w a es) (hlen : es.length ≤ maxLen) :
    Calls Try.prog 28 #[.slice a es.length cap] w (SameU (lastT es) w) := by
  unfold maxLen at hlen
  by_cases h0 : es.length = 0
  · have hL : Hid (0 = lastT es) := by rw [Hid, lastT, if_pos h0]
    rw [h0]
    clear h0 hE
    go_enter Try.func28, Try.ntmps28
    go_wp2
    go_ret
    exact sameU hL.out
  · have hL : Hid ((es.getD (es.length - 1) default).1 = lastT es) := by rw [Hid, lastT, if_neg h0]
    obtain ⟨b, off, rfl, h1, -⟩ := hE (es.length - 1) (by omega)
    generalize (es.getD (es.length - 1) default).1 = t at h1 hL
    have hb : ((es.length : Int) == 0) = false := by simp; intro h; simp [h] at h0
    have hp : 0 < es.length := by omega
    clear h0 hE
    go_enter Try.func28, Try.ntmps28
    go_wp2
    go_ret
    exact sameU hL.out
theorem clast_len (a : Option Addr) (cap n : Nat) (es : List Ent) (hn : es.length = n) (w : World) (hE : Ents w a es) (hlen : es.length ≤ maxLen) : Calls Try.prog 28 #[.slice a n cap] w (SameU (lastT es) w) := by subst hn; exact clast_any a cap es w hE hlen
theorem clone_len (a : Option Addr) (cap n : Nat) (es : List Ent) (hn : es.length = n) (w : World) (h : Sl w a cap es) (hb : n * 32 ≤ 140737488355328) :
    Calls Try.prog 55 #[.slice a n cap] w (OwnPost es w) := by subst hn; exact clone_any a cap es w h hb
/-- a piece of a log. -/
theorem mid_sl {w : World} {a : Option Addr} {cap : Nat} {es : List Ent} (h : Sl w a cap es) (lo hi : Nat) (h1 : lo ≤ hi) (h2 : hi ≤ es.length) :
    ∃ A C, (∀ W, (Instr.slice 22 (.slice a es.length cap) (some (.int .i64 (lo : Int))) (some (.int .i64 (hi : Int))) none).run Try.prog W = .ok (.slice A (hi - lo) C) W) ∧ Sl w A C ((es.take hi).drop lo) := by
  have ht' : Try.prog.underlying 22 = some (.slice (Try.prog.elem 22)) := by kernel_rfl
  have he : Try.prog.elem 22 = 30 := by kernel_rfl
  have hlen := h.len
  have hcm := h.capm
  by_cases hc : cap = lo
  · have h0 : (es.take hi).drop lo = [] := List.eq_nil_of_length_eq_zero (by simp; omega)
    refine ⟨a, 0, fun W => ?_, ?_⟩
    · rw [run_slice_lh W 22 _ _ _ ht' .i64 .i64 _ _ (by omega) (by omega) (by omega), he, size33]
      simp only [Result.andThen, sliced, Int.toNat_natCast]
      subst hc
      cases a <;> simp
    · rw [h0]
      exact ⟨fun i hi => by simp at hi, fun _ => rfl, Nat.zero_le _, Nat.zero_le _, h.plain⟩
  · cases a with
    | none => have := h.nil0 rfl; omega
    | some ad =>
      obtain ⟨b, off, rfl⟩ := h.plain ad rfl
      refine ⟨some ⟨b, off + lo * 4, none⟩, cap - lo, fun W => ?_, ⟨ents_drop (ents_take h.ents hi) lo, by simp, by simp; omega, by omega, fun ad e => by simp at e; exact ⟨_, _, e.symm⟩⟩⟩
      rw [run_slice_lh W 22 _ _ _ ht' .i64 .i64 _ _ (by omega) (by omega) (by omega), he, size33]
      simp only [Result.andThen, sliced, Int.toNat_natCast]
      simp [hc, Addr.add]
      try (intro h0; subst h0; simp)
section
variable {w w' : World} {base p : Nat} {lv ov tv : Value} {os : List RM} {c c' : Co}
/-- an int64. -/
def I64 (x : Int) : Prop := -9223372036854775808 ≤ x ∧ x ≤ 9223372036854775807
set_option maxRecDepth 100000 in
theorem passed_any (s t : Int) (h : CL w base p lv ov tv c) (hs : I64 s) (h0 : 0 ≤ t) (h1 : t ≤ 100) : Calls Try.prog 38 #[.pointer (some ⟨p, 0, none⟩), .int .i64 s, .int .i64 t] w (SameB (c.passed s t) w) := by
  obtain ⟨⟨-, -, -, -, -, -, -, -, -, -, g10, -⟩, -⟩ := h.cells
  obtain ⟨s1, s2⟩ := hs
  by_cases hc : s + t ≤ 9223372036854775807
  · have hF : Hid (decide (s + t ≤ c.now) = c.passed s t) := by show _ = _; unfold Co.passed; simp [hc]
    have hw : IntKind.i64.wrap (s + t) = s + t := IntWalk.i64_in _ (by omega)
    have ht : decide (s ≤ s + t) = true := by simp; omega
    generalize c.now = n at *
    clear h
    go_enter Try.func38, Try.ntmps38
    go_wp2
    go_ret
    exact sameB hF.out
  · have hF : Hid (false = c.passed s t) := by show _ = _; unfold Co.passed; simp [hc]
    have hw : IntKind.i64.wrap (s + t) = s + t - 18446744073709551616 := by simp [IntKind.wrap, IntKind.signed, IntKind.bits]; omega
    have ht : decide (s ≤ s + t - 18446744073709551616) = false := by simp; omega
    generalize c.now = n at *
    clear h
    go_enter Try.func38, Try.ntmps38
    go_wp2
    go_ret
    exact sameB hF.out
end
/-- something for each other voter: the function takes the voter alone, and knows one place. -/
theorem others_tick {p : Nat} {me : Int} (x : Value) (I : Nat → World → Prop) (hme : ∀ (v : Nat) (w : World), I v w → w.cell? ⟨p, 0, none⟩ = some (.int .i64 me)) (hskip : ∀ (v : Nat) (w : World), v < 3 → (v : Int) = me → I v w → I (v + 1) w)
    (hstep : ∀ (v : Nat) (w : World), v < 3 → (v : Int) ≠ me → I v w → Calls Try.prog 37 #[.int .i64 (v : Int), x] w (Tup0 (I (v + 1)))) (w : World) (h : I 0 w) :
    Calls Try.prog 36 #[.pointer (some ⟨p, 0, none⟩), .func (.func 37) #[] #[x]] w (Tup0 (I 3)) := by
  have HM := Lib.hid hme
  have HK := Lib.hid hskip
  have HS := Lib.hid hstep
  have H := Lib.hid h
  clear hme hskip hstep h
  go_enter Try.func36, Try.ntmps36
  go_wp2
  go_loopg [4, 5] 3 (fun k _ v5 wr => ∃ i : Nat, i + k = 3 ∧ v5 = .int .i64 (i : Int) ∧ I i wr)
  case atStart => exact ⟨0, rfl, rfl, H.out⟩
  case round =>
    obtain ⟨i, hik, rfl, hI⟩ := hrel
    clear H
    have g := HM.out i wr hI
    have HI := Lib.hid hI
    clear hI
    by_cases hlt : i < 3
    · have hli : (i : Int) < 3 := by omega
      by_cases he : (i : Int) = me
      · have hb : ((i : Int) != me) = false := by simp [he]
        have HN := Lib.hid (HK.out i wr hlt he HI.out)
        clear he
        go_wp2
        go_roundg (gk - 1)
        case measure => omega
        case rel => exact ⟨i + 1, by omega, by simp, HN.out⟩
      · have hb : ((i : Int) != me) = true := by simp [he]
        have HN := Lib.hid (HS.out i wr hlt he HI.out)
        clear he
        go_wp2_with (go_at_call 37; refine HN.out.mono ?_; rintro e w1 ⟨rfl, hI⟩; have HJ := Lib.hid hI; clear hI)
        go_roundg (gk - 1)
        case measure => omega
        case rel => exact ⟨i + 1, by omega, by simp, HJ.out⟩
    · have h3 : (3 : Int) ≤ (i : Int) := by omega
      obtain rfl : i = 3 := by omega
      go_wp2
      go_end0
      exact ⟨rfl, HI.out⟩
theorem others_camp {p : Nat} {me : Int} (x : Value) (I : Nat → World → Prop) (hme : ∀ (v : Nat) (w : World), I v w → w.cell? ⟨p, 0, none⟩ = some (.int .i64 me)) (hskip : ∀ (v : Nat) (w : World), v < 3 → (v : Int) = me → I v w → I (v + 1) w)
    (hstep : ∀ (v : Nat) (w : World), v < 3 → (v : Int) ≠ me → I v w → Calls Try.prog 59 #[.int .i64 (v : Int), x] w (Tup0 (I (v + 1)))) (w : World) (h : I 0 w) :
    Calls Try.prog 36 #[.pointer (some ⟨p, 0, none⟩), .func (.func 59) #[] #[x]] w (Tup0 (I 3)) := by
  have HM := Lib.hid hme
  have HK := Lib.hid hskip
  have HS := Lib.hid hstep
  have H := Lib.hid h
  clear hme hskip hstep h
  go_enter Try.func36, Try.ntmps36
  go_wp2
  go_loopg [4, 5] 3 (fun k _ v5 wr => ∃ i : Nat, i + k = 3 ∧ v5 = .int .i64 (i : Int) ∧ I i wr)
  case atStart => exact ⟨0, rfl, rfl, H.out⟩
  case round =>
    obtain ⟨i, hik, rfl, hI⟩ := hrel
    clear H
    have g := HM.out i wr hI
    have HI := Lib.hid hI
    clear hI
    by_cases hlt : i < 3
    · have hli : (i : Int) < 3 := by omega
      by_cases he : (i : Int) = me
      · have hb : ((i : Int) != me) = false := by simp [he]
        have HN := Lib.hid (HK.out i wr hlt he HI.out)
        clear he
        go_wp2
        go_roundg (gk - 1)
        case measure => omega
        case rel => exact ⟨i + 1, by omega, by simp, HN.out⟩
      · have hb : ((i : Int) != me) = true := by simp [he]
        have HN := Lib.hid (HS.out i wr hlt he HI.out)
        clear he
        go_wp2_with (go_at_call 59; refine HN.out.mono ?_; rintro e w1 ⟨rfl, hI⟩; have HJ := Lib.hid hI; clear hI)
        go_roundg (gk - 1)
        case measure => omega
        case rel => exact ⟨i + 1, by omega, by simp, HJ.out⟩
    · have h3 : (3 : Int) ≤ (i : Int) := by omega
      obtain rfl : i = 3 := by omega
      go_wp2
      go_end0
      exact ⟨rfl, HI.out⟩
theorem others_until {p : Nat} {me : Int} (x y : Value) (I : Nat → World → Prop) (hme : ∀ (v : Nat) (w : World), I v w → w.cell? ⟨p, 0, none⟩ = some (.int .i64 me)) (hskip : ∀ (v : Nat) (w : World), v < 3 → (v : Int) = me → I v w → I (v + 1) w)
    (hstep : ∀ (v : Nat) (w : World), v < 3 → (v : Int) ≠ me → I v w → Calls Try.prog 43 #[.int .i64 (v : Int), x, y] w (Tup0 (I (v + 1)))) (w : World) (h : I 0 w) :
    Calls Try.prog 36 #[.pointer (some ⟨p, 0, none⟩), .func (.func 43) #[] #[x, y]] w (Tup0 (I 3)) := by
  have HM := Lib.hid hme
  have HK := Lib.hid hskip
  have HS := Lib.hid hstep
  have H := Lib.hid h
  clear hme hskip hstep h
  go_enter Try.func36, Try.ntmps36
  go_wp2
  go_loopg [4, 5] 3 (fun k _ v5 wr => ∃ i : Nat, i + k = 3 ∧ v5 = .int .i64 (i : Int) ∧ I i wr)
  case atStart => exact ⟨0, rfl, rfl, H.out⟩
  case round =>
    obtain ⟨i, hik, rfl, hI⟩ := hrel
    clear H
    have g := HM.out i wr hI
    have HI := Lib.hid hI
    clear hI
    by_cases hlt : i < 3
    · have hli : (i : Int) < 3 := by omega
      by_cases he : (i : Int) = me
      · have hb : ((i : Int) != me) = false := by simp [he]
        have HN := Lib.hid (HK.out i wr hlt he HI.out)
        clear he
        go_wp2
        go_roundg (gk - 1)
        case measure => omega
        case rel => exact ⟨i + 1, by omega, by simp, HN.out⟩
      · have hb : ((i : Int) != me) = true := by simp [he]
        have HN := Lib.hid (HS.out i wr hlt he HI.out)
        clear he
        go_wp2_with (go_at_call 43; refine HN.out.mono ?_; rintro e w1 ⟨rfl, hI⟩; have HJ := Lib.hid hI; clear hI)
        go_roundg (gk - 1)
        case measure => omega
        case rel => exact ⟨i + 1, by omega, by simp, HJ.out⟩
    · have h3 : (3 : Int) ≤ (i : Int) := by omega
      obtain rfl : i = 3 := by omega
      go_wp2
      go_end0
      exact ⟨rfl, HI.out⟩
theorem others_ans {p : Nat} {me : Int} (x y : Value) (I : Nat → World → Prop) (hme : ∀ (v : Nat) (w : World), I v w → w.cell? ⟨p, 0, none⟩ = some (.int .i64 me)) (hskip : ∀ (v : Nat) (w : World), v < 3 → (v : Int) = me → I v w → I (v + 1) w)
    (hstep : ∀ (v : Nat) (w : World), v < 3 → (v : Int) ≠ me → I v w → Calls Try.prog 67 #[.int .i64 (v : Int), x, y] w (Tup0 (I (v + 1)))) (w : World) (h : I 0 w) :
    Calls Try.prog 36 #[.pointer (some ⟨p, 0, none⟩), .func (.func 67) #[] #[x, y]] w (Tup0 (I 3)) := by
  have HM := Lib.hid hme
  have HK := Lib.hid hskip
  have HS := Lib.hid hstep
  have H := Lib.hid h
  clear hme hskip hstep h
  go_enter Try.func36, Try.ntmps36
  go_wp2
  go_loopg [4, 5] 3 (fun k _ v5 wr => ∃ i : Nat, i + k = 3 ∧ v5 = .int .i64 (i : Int) ∧ I i wr)
  case atStart => exact ⟨0, rfl, rfl, H.out⟩
  case round =>
    obtain ⟨i, hik, rfl, hI⟩ := hrel
    clear H
    have g := HM.out i wr hI
    have HI := Lib.hid hI
    clear hI
    by_cases hlt : i < 3
    · have hli : (i : Int) < 3 := by omega
      by_cases he : (i : Int) = me
      · have hb : ((i : Int) != me) = false := by simp [he]
        have HN := Lib.hid (HK.out i wr hlt he HI.out)
        clear he
        go_wp2
        go_roundg (gk - 1)
        case measure => omega
        case rel => exact ⟨i + 1, by omega, by simp, HN.out⟩
      · have hb : ((i : Int) != me) = true := by simp [he]
        have HN := Lib.hid (HS.out i wr hlt he HI.out)
        clear he
        go_wp2_with (go_at_call 67; refine HN.out.mono ?_; rintro e w1 ⟨rfl, hI⟩; have HJ := Lib.hid hI; clear hI)
        go_roundg (gk - 1)
        case measure => omega
        case rel => exact ⟨i + 1, by omega, by simp, HJ.out⟩
    · have h3 : (3 : Int) ≤ (i : Int) := by omega
      obtain rfl : i = 3 := by omega
      go_wp2
      go_end0
      exact ⟨rfl, HI.out⟩
theorem others_ent {p : Nat} {me : Int} (x : Value) (I : Nat → World → Prop) (hme : ∀ (v : Nat) (w : World), I v w → w.cell? ⟨p, 0, none⟩ = some (.int .i64 me)) (hskip : ∀ (v : Nat) (w : World), v < 3 → (v : Int) = me → I v w → I (v + 1) w)
    (hstep : ∀ (v : Nat) (w : World), v < 3 → (v : Int) ≠ me → I v w → Calls Try.prog 39 #[x, .int .i64 (v : Int)] w (Tup0 (I (v + 1)))) (w : World) (h : I 0 w) :
    Calls Try.prog 36 #[.pointer (some ⟨p, 0, none⟩), .func (.func 39) #[x] #[]] w (Tup0 (I 3)) := by
  have HM := Lib.hid hme
  have HK := Lib.hid hskip
  have HS := Lib.hid hstep
  have H := Lib.hid h
  clear hme hskip hstep h
  go_enter Try.func36, Try.ntmps36
  go_wp2
  go_loopg [4, 5] 3 (fun k _ v5 wr => ∃ i : Nat, i + k = 3 ∧ v5 = .int .i64 (i : Int) ∧ I i wr)
  case atStart => exact ⟨0, rfl, rfl, H.out⟩
  case round =>
    obtain ⟨i, hik, rfl, hI⟩ := hrel
    clear H
    have g := HM.out i wr hI
    have HI := Lib.hid hI
    clear hI
    by_cases hlt : i < 3
    · have hli : (i : Int) < 3 := by omega
      by_cases he : (i : Int) = me
      · have hb : ((i : Int) != me) = false := by simp [he]
        have HN := Lib.hid (HK.out i wr hlt he HI.out)
        clear he
        go_wp2
        go_roundg (gk - 1)
        case measure => omega
        case rel => exact ⟨i + 1, by omega, by simp, HN.out⟩
      · have hb : ((i : Int) != me) = true := by simp [he]
        have HN := Lib.hid (HS.out i wr hlt he HI.out)
        clear he
        go_wp2_with (go_at_call 39; refine HN.out.mono ?_; rintro e w1 ⟨rfl, hI⟩; have HJ := Lib.hid hI; clear hI)
        go_roundg (gk - 1)
        case measure => omega
        case rel => exact ⟨i + 1, by omega, by simp, HJ.out⟩
    · have h3 : (3 : Int) ≤ (i : Int) := by omega
      obtain rfl : i = 3 := by omega
      go_wp2
      go_end0
      exact ⟨rfl, HI.out⟩
end Go.Proofs.Ytcleaamjfjnkkaa
