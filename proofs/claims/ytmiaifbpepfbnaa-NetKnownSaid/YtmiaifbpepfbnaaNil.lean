/- Methods of no net; and of a net that they leave as it is. -/
import Derived.Test.YtmiaifbpepfbnaaOne
namespace Go.Proofs.Ytmiaifbpepfbnaa
open Go.RowKit Go.Joins Go.ChangeMaps

set_option maxRecDepth 100000 in
theorem len_nil (w : World) : Calls Try.prog 13 #[.pointer none] w (SameI 0 w) := by
  go_enter Try.func13, Try.ntmps13
  go_wp2
  go_ret
  exact sameI rfl
set_option maxRecDepth 100000 in
theorem at_nil (k : Int) (w : World) : Calls Try.prog 29 #[.pointer none, .int .i64 k] w (RetV (.tuple #[.agg #[.int .i64 0, .int .i64 0, .string ⟨#[]⟩], .bool false]) w) := by
  by_cases h0 : k < 0
  · go_enter Try.func29, Try.ntmps29
    go_wp2_with (go_at_call 13; refine (len_nil _).mono ?_; rintro e w1 ⟨rfl, rfl⟩)
    refine bodyPost_ret (results_fr rfl _ _ w.heap.size _ (0, 0) rfl rfl (heap_alloc_new w _)) rfl ?_
    exact retV rfl (bel1 _ _)
  · have h1 : 0 ≤ k := by omega
    clear h0
    go_enter Try.func29, Try.ntmps29
    go_wp2_with (go_at_call 13; refine (len_nil _).mono ?_; rintro e w1 ⟨rfl, rfl⟩)
    refine bodyPost_ret (results_fr rfl _ _ w.heap.size _ (0, 0) rfl rfl (heap_alloc_new w _)) rfl ?_
    exact retV rfl (bel1 _ _)
set_option maxRecDepth 100000 in
theorem take_nil (k : Int) (w : World) : Calls Try.prog 17 #[.pointer none, .int .i64 k] w (RetV (.tuple #[.agg #[.int .i64 0, .int .i64 0, .string ⟨#[]⟩], .bool false]) w) := by
  have hB0 := Lib.hid (bel1 w (.cells #[.int .i64 0, .int .i64 0, .string ⟨#[]⟩] 31))
  have hr0 : Hid ((w.alloc (.cells #[.int .i64 0, .int .i64 0, .string ⟨#[]⟩] 31)).heap[w.heap.size]? = some (.cells #[.int .i64 0, .int .i64 0, .string ⟨#[]⟩] 31 (0, 0))) := heap_alloc_new w _
  go_enter Try.func17, Try.ntmps17
  go_wp2_with (go_at_call 29; refine (at_nil _ _).mono ?_; rintro e w1 ⟨rfl, hb⟩; have hB := Lib.hid hb; clear hb; obtain ⟨hh, d0, d1, d2, q0, q1, q2⟩ := res_all ((hB.out.block _ (blk_lt hr0.out)).trans hr0.out); have hH := Lib.hid hh; clear hh)
  refine bodyPost_ret (results_fr rfl _ _ w.heap.size _ (0, 0) rfl rfl (set3_blk (hH.out _))) rfl ?_
  exact ⟨rfl, set3_below _ _ _ (grew_trans hB0.out (grew_trans hB.out (bel1 _ _))) (Nat.le_refl _)⟩
set_option maxRecDepth 100000 in
theorem drop_nil (k : Int) (w : World) : Calls Try.prog 18 #[.pointer none, .int .i64 k] w (RetB false w) := by
  go_enter Try.func18, Try.ntmps18
  go_wp2_with (go_at_call 29; refine (at_nil _ _).mono ?_; rintro e w1 ⟨rfl, hb⟩; have hB := Lib.hid hb; clear hb)
  go_ret
  exact retB rfl (grew_trans hB.out (bel1 _ _))
set_option maxRecDepth 100000 in
theorem twice_nil (k : Int) (w : World) : Calls Try.prog 11 #[.pointer none, .int .i64 k] w (RetB false w) := by
  go_enter Try.func11, Try.ntmps11
  go_wp2_with (go_at_call 29; refine (at_nil _ _).mono ?_; rintro e w1 ⟨rfl, hb⟩; have hB := Lib.hid hb; clear hb)
  go_ret
  exact retB rfl (grew_trans hB.out (bel1 _ _))
set_option maxRecDepth 100000 in
theorem heal_nil (w : World) : Calls Try.prog 25 #[.pointer none] w (Tup0 (fun w' => w = w')) := by
  go_enter Try.func25, Try.ntmps25
  go_wp2
  go_end0
  exact ⟨rfl, rfl⟩
set_option maxRecDepth 100000 in
theorem sent_nil (w : World) : Calls Try.prog 22 #[.pointer none] w (RetV (.tuple #[.int .i64 0, .int .i64 0]) w) := by
  go_enter Try.func22, Try.ntmps22
  go_wp2
  refine bodyPost_ret (results_tmp2 rfl _ _ _) rfl ?_
  exact retV rfl (Below.refl _ _)
set_option maxHeartbeats 1000000 in
set_option maxRecDepth 100000 in
theorem cut_nil (a b : Int) (w : World) : Calls Try.prog 16 #[.pointer none, .int .i64 a, .int .i64 b] w (RetB false w) := by
  go_enter Try.func16, Try.ntmps16
  go_wp2_with fail
  refine wp_region_later_lit (by kernel_rfl) (by kernel_rfl) ?_
  repeat (any_goals (first | go_big_quiet_step (first | (go_at_call 26; exact laterS (two_nil _ _ _)) | (go_at_call 31; exact Calls.later (link_any _ _ _))) | quiet_step (first | (go_at_call 26; exact laterS (two_nil _ _ _)) | (go_at_call 31; exact Calls.later (link_any _ _ _)))))
  refine wpQuiet_nil ?_
  intro _ hw'
  obtain ⟨y, hw''⟩ := hw'
  subst hw''
  have hy := Lib.hid y.h
  generalize y.w = Y at *
  go_wp2
  go_ret
  exact retB rfl hy.out
set_option maxHeartbeats 1000000 in
set_option maxRecDepth 100000 in
theorem join_nil (a b : Int) (w : World) : Calls Try.prog 19 #[.pointer none, .int .i64 a, .int .i64 b] w (RetB false w) := by
  go_enter Try.func19, Try.ntmps19
  go_wp2_with fail
  refine wp_region_later_lit (by kernel_rfl) (by kernel_rfl) ?_
  repeat (any_goals (first | go_big_quiet_step (first | (go_at_call 26; exact laterS (two_nil _ _ _)) | (go_at_call 31; exact Calls.later (link_any _ _ _))) | quiet_step (first | (go_at_call 26; exact laterS (two_nil _ _ _)) | (go_at_call 31; exact Calls.later (link_any _ _ _)))))
  refine wpQuiet_nil ?_
  intro _ hw'
  obtain ⟨y, hw''⟩ := hw'
  subst hw''
  have hy := Lib.hid y.h
  generalize y.w = Y at *
  go_wp2
  go_ret
  exact retB rfl hy.out
set_option maxHeartbeats 2000000 in
set_option maxRecDepth 100000 in
theorem send_nil {a : Option Addr} {c n : Nat} {l : List Fr} {w : World} (hl : Sli encF 3 w a c l) (hn : l.length = n) : Calls Try.prog 9 #[.pointer none, .slice a n c] w (Tup0 (fun w' => Below w.heap.size w w')) := by
  have hL := Lib.hid hl
  have hcm := hl.capm
  have hln := hl.len
  unfold maxLen at hcm
  have hN := Lib.hid hn
  rw [hn] at hln
  clear hl hn
  go_enter Try.func9, Try.ntmps9
  go_wp2
  go_loopg [5, 8] n (fun gk v5 v8 wr => ∃ i : Nat, i + gk = n ∧ v8 = .int .i64 (i : Int) ∧ Below w.heap.size w wr)
  case atStart => exact ⟨0, by omega, rfl, Below.refl _ _⟩
  case round =>
    obtain ⟨i, hik, rfl, hU⟩ := hrel
    have HU := Lib.hid hU
    clear hU
    by_cases hlt : i < n
    · obtain ⟨b, off, hab, hc⟩ := hL.out.lst i (by have := hN.out; omega)
      obtain ⟨g0', g1', g2'⟩ := fr_cells hc
      have g0 := keepc' g0' HU.out
      have g1 := keepc' g1' HU.out
      have g2 := keepc' g2' HU.out
      generalize l.getD i default = f at *
      obtain ⟨f0, f1, f2⟩ := f
      subst hab
      have hXB := Lib.hid (bel1 wr (.cells #[.int .i64 f0, .int .i64 f1, .string f2] 31))
      clear hc g0' g1' g2'
      have hli : (i : Int) < (n : Int) := by omega
      go_wp2_with (go_at_call 26; refine (two_nil _ _ _).mono ?_; rintro e w2 ⟨rfl, rfl⟩)
      go_roundg (gk - 1)
      case measure => omega
      case rel => exact ⟨i + 1, by omega, by simp, grew_trans HU.out hXB.out⟩
    · obtain rfl : i = n := by omega
      go_wp2
      go_end0
      exact ⟨rfl, HU.out⟩

/-! ### Nothing is there, nothing is done -/
variable {w0 w : World} {F : Nat → Prop} {p bm : Nat} {s : St}
set_option maxRecDepth 100000 in
theorem drop_no {k : Int} (h : NE w0 w F p bm s) (hk : inB s k = false) : Calls Try.prog 18 #[.pointer (some ⟨p, 0, none⟩), .int .i64 k] w (RetB false w) := by
  obtain ⟨v, -, hP, -⟩ := h
  have ha0 := at_out _ p bm v s k w hP hk
  simp only [frV, nof] at ha0
  have ha := Lib.hid ha0
  clear ha0 hP hk
  go_enter Try.func18, Try.ntmps18
  go_wp2_with (go_at_call 29; refine ha.out.mono ?_; rintro e w1 ⟨rfl, hb⟩; have hB := Lib.hid hb; clear hb)
  go_ret
  exact retB rfl (grew_trans hB.out (bel1 _ _))
set_option maxRecDepth 100000 in
theorem twice_no {k : Int} (h : NE w0 w F p bm s) (hk : inB s k = false) : Calls Try.prog 11 #[.pointer (some ⟨p, 0, none⟩), .int .i64 k] w (RetB false w) := by
  obtain ⟨v, -, hP, -⟩ := h
  have ha0 := at_out _ p bm v s k w hP hk
  simp only [frV, nof] at ha0
  have ha := Lib.hid ha0
  clear ha0 hP hk
  go_enter Try.func11, Try.ntmps11
  go_wp2_with (go_at_call 29; refine ha.out.mono ?_; rintro e w1 ⟨rfl, hb⟩; have hB := Lib.hid hb; clear hb)
  go_ret
  exact retB rfl (grew_trans hB.out (bel1 _ _))
end Go.Proofs.Ytmiaifbpepfbnaa
