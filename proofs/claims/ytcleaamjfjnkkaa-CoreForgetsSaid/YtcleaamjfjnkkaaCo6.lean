/- A leader's tick for one voter. -/
import Derived.Test.YtcleaamjfjnkkaaCo5
namespace Go.Proofs.Ytcleaamjfjnkkaa
open Go.RowKit Go.Joins

theorem SameB.quiet {f : Nat} {args : Array Value} {w : World} {n : Nat} {b : Bool} (h : Calls Try.prog f args (w.drewN n) (SameB b (w.drewN n))) : Calls Try.prog f args (w.drewN n) fun e w'' => e = .returned (.bool b) ∧ ∃ m, w'' = w.drewN m :=
  h.mono fun _ _ ⟨he, hm⟩ => ⟨he, n, hm.symm⟩
/-- what a voter keeps to. -/
structure Ok (c : Co) : Prop where
  me : 0 ≤ c.me ∧ c.me < 3
  term : 0 ≤ c.term ∧ c.term ≤ 18446744073709551615
  voted : -1 ≤ c.voted ∧ c.voted < 3
  log : c.log.length ≤ 300
  wf : ∀ i, i < c.log.length → wfE (c.log.getD i default)
  commit : 0 ≤ c.commit ∧ c.commit ≤ c.log.length
  heard : I64 c.heard
  since : I64 c.since
  now : I64 c.now
  timeout : 30 ≤ c.timeout ∧ c.timeout ≤ 45
  pr : ∀ v, v < 3 → I64 (c.pr v).stamp ∧ I64 (c.pr v).sentAt ∧ 0 ≤ (c.pr v).sentTo ∧ (c.pr v).sentTo ≤ 300 ∧ 0 ≤ (c.pr v).mat ∧ (c.pr v).mat ≤ 300 ∧ 0 ≤ (c.pr v).next ∧ (c.pr v).next ≤ 301
  led : c.role = 2 → ∀ v, v < 3 → 1 ≤ (c.pr v).next ∧ (c.pr v).next ≤ (c.log.length : Int) + 1 ∧ (c.pr v).mat ≤ c.log.length
set_option linter.unusedSimpArgs false in
set_option linter.unusedVariables false in
set_option maxHeartbeats 8000000 in
set_option maxRecDepth 100000 in
theorem tick0 {w : World} {base p bx : Nat} {lv ov tv : Value} {os : List RM} {c : Co} (h : CAt w base p lv ov tv os c) (hx : w.cell? ⟨bx, 0, none⟩ = some (.pointer (some ⟨p, 0, none⟩)))
    (hs : I64 (c.pr 0).sentAt) (h1 : 1 ≤ (c.pr 0).next) (h2 : (c.pr 0).next ≤ (c.log.length : Int) + 1) (hlen : c.log.length ≤ 300) (hl : c.out.length ≤ 100) (hd : c.dest.length ≤ 100) :
    Calls Try.prog 37 #[.int .i64 0, .pointer (some ⟨bx, 0, none⟩)] w (Tup0 (CUpd base p lv ov tv (c.tickOne 0) w)) := by
  have mixed : Try.prog.follows .mixedOrders = true := by kernel_rfl
  have HX := Lib.hid (h.below (bel1 w (.cells #[.int .i64 (c.pr 0).mat, .int .i64 (c.pr 0).next, .int .i64 (c.pr 0).stamp, .int .i64 (c.pr 0).sentAt, .int .i64 (c.pr 0).sentTo, .bool (c.pr 0).votes] 73)))
  have HW := Lib.hid (bel1 w (.cells #[.int .i64 (c.pr 0).mat, .int .i64 (c.pr 0).next, .int .i64 (c.pr 0).stamp, .int .i64 (c.pr 0).sentAt, .int .i64 (c.pr 0).sentTo, .bool (c.pr 0).votes] 73))
  have gx := hx
  have gx2 := fun o => keepc' hx (bel1 w o)
  have g11 := (cell_of h.blk 11 (v := .int .i64 (c.pr 0).mat) rfl).1
  have g12 := (cell_of h.blk 12 (v := .int .i64 (c.pr 0).next) rfl).1
  have g13 := (cell_of h.blk 13 (v := .int .i64 (c.pr 0).stamp) rfl).1
  have g14 := (cell_of h.blk 14 (v := .int .i64 (c.pr 0).sentAt) rfl).1
  have g15 := (cell_of h.blk 15 (v := .int .i64 (c.pr 0).sentTo) rfl).1
  have g16 := (cell_of h.blk 16 (v := .bool (c.pr 0).votes) rfl).1
  obtain ⟨la, lc, hv, hsl, -⟩ := own_sl h.log
  subst hv
  have g3 := fun o => keepc' h.toCL.cells.1.2.2.2.1 (bel1 w o)
  have HL := Lib.hid (And.intro hl (And.intro hd (And.intro h1 (And.intro h2 hlen))))
  have HP := Lib.hid (fun n => passed_any (w := (w.alloc (.cells #[.int .i64 (c.pr 0).mat, .int .i64 (c.pr 0).next, .int .i64 (c.pr 0).stamp, .int .i64 (c.pr 0).sentAt, .int .i64 (c.pr 0).sentTo, .bool (c.pr 0).votes] 73)).drewN n) (c.pr 0).sentAt 4 (HX.out.toCL.below (below_drewN' _ n)) hs (by omega) (by omega))
  have HT := Lib.hid (show c.tickOne 0 = if c.passed (c.pr 0).sentAt 4 || decide ((c.pr 0).sentTo < (c.log.length : Int)) then c.entries 0 else c from rfl)
  have HBl := Lib.hid (heap_alloc_new w (.cells #[.int .i64 (c.pr 0).mat, .int .i64 (c.pr 0).next, .int .i64 (c.pr 0).stamp, .int .i64 (c.pr 0).sentAt, .int .i64 (c.pr 0).sentTo, .bool (c.pr 0).votes] 73))
  clear h hsl hs hl hd h1 h2 hlen hx
  cases hp : c.passed (c.pr 0).sentAt 4 with
  | true =>
    rw [hp] at HP HT
    have HP2 := Lib.hid (fun n => SameB.quiet (HP.out n))
    clear hp
    go_enter Try.func37, Try.ntmps37
    go_upto_region 1 with fail
    go_quiet ((go_at_call 38; exact HP2.out _))
    go_wp2_with (go_at_call 39; refine (entries_any 0 (by omega) (HX.out.below (below_drewN' _ _)) HL.out.2.2.1 HL.out.2.2.2.1 HL.out.2.2.2.2 HL.out.1 HL.out.2.1).mono ?_; rintro e w2 ⟨rfl, hU⟩)
    go_end0
    rw [HT.out]
    exact ⟨rfl, CUpd.below (grew_trans HW.out (below_drewN' _ _)) hU⟩
  | false =>
    rw [hp] at HP HT
    have HP2 := Lib.hid (fun n => SameB.quiet (HP.out n))
    clear hp
    by_cases hq : (c.pr 0).sentTo < (c.log.length : Int)
    · have hqb : decide ((c.pr 0).sentTo < (c.log.length : Int)) = true := by simpa using hq
      rw [hqb] at HT
      go_enter Try.func37, Try.ntmps37
      go_upto_region 1 with fail
      go_quiet ((go_at_call 38; exact HP2.out _))
      go_wp2_with (go_at_call 39; refine (entries_any 0 (by omega) (HX.out.below (below_drewN' _ _)) HL.out.2.2.1 HL.out.2.2.2.1 HL.out.2.2.2.2 HL.out.1 HL.out.2.1).mono ?_; rintro e w2 ⟨rfl, hU⟩)
      go_end0
      rw [HT.out]
      exact ⟨rfl, CUpd.below (grew_trans HW.out (below_drewN' _ _)) hU⟩
    · have hqb : decide ((c.pr 0).sentTo < (c.log.length : Int)) = false := by simpa using hq
      have hqi : (c.log.length : Int) ≤ (c.pr 0).sentTo := by omega
      rw [hqb] at HT
      clear hq
      go_enter Try.func37, Try.ntmps37
      go_upto_region 1 with fail
      go_quiet ((go_at_call 38; exact HP2.out _))
      go_wp2
      go_end0
      rw [HT.out, if_neg (by simp)]
      exact ⟨rfl, CUpd.below HW.out (HX.out.stay (below_drewN' _ _))⟩
set_option linter.unusedSimpArgs false in
set_option linter.unusedVariables false in
set_option maxHeartbeats 8000000 in
set_option maxRecDepth 100000 in
theorem tick1 {w : World} {base p bx : Nat} {lv ov tv : Value} {os : List RM} {c : Co} (h : CAt w base p lv ov tv os c) (hx : w.cell? ⟨bx, 0, none⟩ = some (.pointer (some ⟨p, 0, none⟩)))
    (hs : I64 (c.pr 1).sentAt) (h1 : 1 ≤ (c.pr 1).next) (h2 : (c.pr 1).next ≤ (c.log.length : Int) + 1) (hlen : c.log.length ≤ 300) (hl : c.out.length ≤ 100) (hd : c.dest.length ≤ 100) :
    Calls Try.prog 37 #[.int .i64 1, .pointer (some ⟨bx, 0, none⟩)] w (Tup0 (CUpd base p lv ov tv (c.tickOne 1) w)) := by
  have mixed : Try.prog.follows .mixedOrders = true := by kernel_rfl
  have HX := Lib.hid (h.below (bel1 w (.cells #[.int .i64 (c.pr 1).mat, .int .i64 (c.pr 1).next, .int .i64 (c.pr 1).stamp, .int .i64 (c.pr 1).sentAt, .int .i64 (c.pr 1).sentTo, .bool (c.pr 1).votes] 73)))
  have HW := Lib.hid (bel1 w (.cells #[.int .i64 (c.pr 1).mat, .int .i64 (c.pr 1).next, .int .i64 (c.pr 1).stamp, .int .i64 (c.pr 1).sentAt, .int .i64 (c.pr 1).sentTo, .bool (c.pr 1).votes] 73))
  have gx := hx
  have gx2 := fun o => keepc' hx (bel1 w o)
  have g17 := (cell_of h.blk 17 (v := .int .i64 (c.pr 1).mat) rfl).1
  have g18 := (cell_of h.blk 18 (v := .int .i64 (c.pr 1).next) rfl).1
  have g19 := (cell_of h.blk 19 (v := .int .i64 (c.pr 1).stamp) rfl).1
  have g20 := (cell_of h.blk 20 (v := .int .i64 (c.pr 1).sentAt) rfl).1
  have g21 := (cell_of h.blk 21 (v := .int .i64 (c.pr 1).sentTo) rfl).1
  have g22 := (cell_of h.blk 22 (v := .bool (c.pr 1).votes) rfl).1
  obtain ⟨la, lc, hv, hsl, -⟩ := own_sl h.log
  subst hv
  have g3 := fun o => keepc' h.toCL.cells.1.2.2.2.1 (bel1 w o)
  have HL := Lib.hid (And.intro hl (And.intro hd (And.intro h1 (And.intro h2 hlen))))
  have HP := Lib.hid (fun n => passed_any (w := (w.alloc (.cells #[.int .i64 (c.pr 1).mat, .int .i64 (c.pr 1).next, .int .i64 (c.pr 1).stamp, .int .i64 (c.pr 1).sentAt, .int .i64 (c.pr 1).sentTo, .bool (c.pr 1).votes] 73)).drewN n) (c.pr 1).sentAt 4 (HX.out.toCL.below (below_drewN' _ n)) hs (by omega) (by omega))
  have HT := Lib.hid (show c.tickOne 1 = if c.passed (c.pr 1).sentAt 4 || decide ((c.pr 1).sentTo < (c.log.length : Int)) then c.entries 1 else c from rfl)
  have HBl := Lib.hid (heap_alloc_new w (.cells #[.int .i64 (c.pr 1).mat, .int .i64 (c.pr 1).next, .int .i64 (c.pr 1).stamp, .int .i64 (c.pr 1).sentAt, .int .i64 (c.pr 1).sentTo, .bool (c.pr 1).votes] 73))
  clear h hsl hs hl hd h1 h2 hlen hx
  cases hp : c.passed (c.pr 1).sentAt 4 with
  | true =>
    rw [hp] at HP HT
    have HP2 := Lib.hid (fun n => SameB.quiet (HP.out n))
    clear hp
    go_enter Try.func37, Try.ntmps37
    go_upto_region 1 with fail
    go_quiet ((go_at_call 38; exact HP2.out _))
    go_wp2_with (go_at_call 39; refine (entries_any 1 (by omega) (HX.out.below (below_drewN' _ _)) HL.out.2.2.1 HL.out.2.2.2.1 HL.out.2.2.2.2 HL.out.1 HL.out.2.1).mono ?_; rintro e w2 ⟨rfl, hU⟩)
    go_end0
    rw [HT.out]
    exact ⟨rfl, CUpd.below (grew_trans HW.out (below_drewN' _ _)) hU⟩
  | false =>
    rw [hp] at HP HT
    have HP2 := Lib.hid (fun n => SameB.quiet (HP.out n))
    clear hp
    by_cases hq : (c.pr 1).sentTo < (c.log.length : Int)
    · have hqb : decide ((c.pr 1).sentTo < (c.log.length : Int)) = true := by simpa using hq
      rw [hqb] at HT
      go_enter Try.func37, Try.ntmps37
      go_upto_region 1 with fail
      go_quiet ((go_at_call 38; exact HP2.out _))
      go_wp2_with (go_at_call 39; refine (entries_any 1 (by omega) (HX.out.below (below_drewN' _ _)) HL.out.2.2.1 HL.out.2.2.2.1 HL.out.2.2.2.2 HL.out.1 HL.out.2.1).mono ?_; rintro e w2 ⟨rfl, hU⟩)
      go_end0
      rw [HT.out]
      exact ⟨rfl, CUpd.below (grew_trans HW.out (below_drewN' _ _)) hU⟩
    · have hqb : decide ((c.pr 1).sentTo < (c.log.length : Int)) = false := by simpa using hq
      have hqi : (c.log.length : Int) ≤ (c.pr 1).sentTo := by omega
      rw [hqb] at HT
      clear hq
      go_enter Try.func37, Try.ntmps37
      go_upto_region 1 with fail
      go_quiet ((go_at_call 38; exact HP2.out _))
      go_wp2
      go_end0
      rw [HT.out, if_neg (by simp)]
      exact ⟨rfl, CUpd.below HW.out (HX.out.stay (below_drewN' _ _))⟩
set_option linter.unusedSimpArgs false in
set_option linter.unusedVariables false in
set_option maxHeartbeats 8000000 in
set_option maxRecDepth 100000 in
theorem tick2 {w : World} {base p bx : Nat} {lv ov tv : Value} {os : List RM} {c : Co} (h : CAt w base p lv ov tv os c) (hx : w.cell? ⟨bx, 0, none⟩ = some (.pointer (some ⟨p, 0, none⟩)))
    (hs : I64 (c.pr 2).sentAt) (h1 : 1 ≤ (c.pr 2).next) (h2 : (c.pr 2).next ≤ (c.log.length : Int) + 1) (hlen : c.log.length ≤ 300) (hl : c.out.length ≤ 100) (hd : c.dest.length ≤ 100) :
    Calls Try.prog 37 #[.int .i64 2, .pointer (some ⟨bx, 0, none⟩)] w (Tup0 (CUpd base p lv ov tv (c.tickOne 2) w)) := by
  have mixed : Try.prog.follows .mixedOrders = true := by kernel_rfl
  have HX := Lib.hid (h.below (bel1 w (.cells #[.int .i64 (c.pr 2).mat, .int .i64 (c.pr 2).next, .int .i64 (c.pr 2).stamp, .int .i64 (c.pr 2).sentAt, .int .i64 (c.pr 2).sentTo, .bool (c.pr 2).votes] 73)))
  have HW := Lib.hid (bel1 w (.cells #[.int .i64 (c.pr 2).mat, .int .i64 (c.pr 2).next, .int .i64 (c.pr 2).stamp, .int .i64 (c.pr 2).sentAt, .int .i64 (c.pr 2).sentTo, .bool (c.pr 2).votes] 73))
  have gx := hx
  have gx2 := fun o => keepc' hx (bel1 w o)
  have g23 := (cell_of h.blk 23 (v := .int .i64 (c.pr 2).mat) rfl).1
  have g24 := (cell_of h.blk 24 (v := .int .i64 (c.pr 2).next) rfl).1
  have g25 := (cell_of h.blk 25 (v := .int .i64 (c.pr 2).stamp) rfl).1
  have g26 := (cell_of h.blk 26 (v := .int .i64 (c.pr 2).sentAt) rfl).1
  have g27 := (cell_of h.blk 27 (v := .int .i64 (c.pr 2).sentTo) rfl).1
  have g28 := (cell_of h.blk 28 (v := .bool (c.pr 2).votes) rfl).1
  obtain ⟨la, lc, hv, hsl, -⟩ := own_sl h.log
  subst hv
  have g3 := fun o => keepc' h.toCL.cells.1.2.2.2.1 (bel1 w o)
  have HL := Lib.hid (And.intro hl (And.intro hd (And.intro h1 (And.intro h2 hlen))))
  have HP := Lib.hid (fun n => passed_any (w := (w.alloc (.cells #[.int .i64 (c.pr 2).mat, .int .i64 (c.pr 2).next, .int .i64 (c.pr 2).stamp, .int .i64 (c.pr 2).sentAt, .int .i64 (c.pr 2).sentTo, .bool (c.pr 2).votes] 73)).drewN n) (c.pr 2).sentAt 4 (HX.out.toCL.below (below_drewN' _ n)) hs (by omega) (by omega))
  have HT := Lib.hid (show c.tickOne 2 = if c.passed (c.pr 2).sentAt 4 || decide ((c.pr 2).sentTo < (c.log.length : Int)) then c.entries 2 else c from rfl)
  have HBl := Lib.hid (heap_alloc_new w (.cells #[.int .i64 (c.pr 2).mat, .int .i64 (c.pr 2).next, .int .i64 (c.pr 2).stamp, .int .i64 (c.pr 2).sentAt, .int .i64 (c.pr 2).sentTo, .bool (c.pr 2).votes] 73))
  clear h hsl hs hl hd h1 h2 hlen hx
  cases hp : c.passed (c.pr 2).sentAt 4 with
  | true =>
    rw [hp] at HP HT
    have HP2 := Lib.hid (fun n => SameB.quiet (HP.out n))
    clear hp
    go_enter Try.func37, Try.ntmps37
    go_upto_region 1 with fail
    go_quiet ((go_at_call 38; exact HP2.out _))
    go_wp2_with (go_at_call 39; refine (entries_any 2 (by omega) (HX.out.below (below_drewN' _ _)) HL.out.2.2.1 HL.out.2.2.2.1 HL.out.2.2.2.2 HL.out.1 HL.out.2.1).mono ?_; rintro e w2 ⟨rfl, hU⟩)
    go_end0
    rw [HT.out]
    exact ⟨rfl, CUpd.below (grew_trans HW.out (below_drewN' _ _)) hU⟩
  | false =>
    rw [hp] at HP HT
    have HP2 := Lib.hid (fun n => SameB.quiet (HP.out n))
    clear hp
    by_cases hq : (c.pr 2).sentTo < (c.log.length : Int)
    · have hqb : decide ((c.pr 2).sentTo < (c.log.length : Int)) = true := by simpa using hq
      rw [hqb] at HT
      go_enter Try.func37, Try.ntmps37
      go_upto_region 1 with fail
      go_quiet ((go_at_call 38; exact HP2.out _))
      go_wp2_with (go_at_call 39; refine (entries_any 2 (by omega) (HX.out.below (below_drewN' _ _)) HL.out.2.2.1 HL.out.2.2.2.1 HL.out.2.2.2.2 HL.out.1 HL.out.2.1).mono ?_; rintro e w2 ⟨rfl, hU⟩)
      go_end0
      rw [HT.out]
      exact ⟨rfl, CUpd.below (grew_trans HW.out (below_drewN' _ _)) hU⟩
    · have hqb : decide ((c.pr 2).sentTo < (c.log.length : Int)) = false := by simpa using hq
      have hqi : (c.log.length : Int) ≤ (c.pr 2).sentTo := by omega
      rw [hqb] at HT
      clear hq
      go_enter Try.func37, Try.ntmps37
      go_upto_region 1 with fail
      go_quiet ((go_at_call 38; exact HP2.out _))
      go_wp2
      go_end0
      rw [HT.out, if_neg (by simp)]
      exact ⟨rfl, CUpd.below HW.out (HX.out.stay (below_drewN' _ _))⟩
theorem tickOne_any {w : World} {base p bx : Nat} {lv ov tv : Value} {os : List RM} {c : Co} (v : Nat) (hv : v < 3) (h : CAt w base p lv ov tv os c) (hx : w.cell? ⟨bx, 0, none⟩ = some (.pointer (some ⟨p, 0, none⟩)))
    (hs : I64 (c.pr v).sentAt) (h1 : 1 ≤ (c.pr v).next) (h2 : (c.pr v).next ≤ (c.log.length : Int) + 1) (hlen : c.log.length ≤ 300) (hl : c.out.length ≤ 100) (hd : c.dest.length ≤ 100) :
    Calls Try.prog 37 #[.int .i64 (v : Int), .pointer (some ⟨bx, 0, none⟩)] w (Tup0 (CUpd base p lv ov tv (c.tickOne v) w)) := by
  obtain rfl | rfl | rfl : v = 0 ∨ v = 1 ∨ v = 2 := by omega
  · exact tick0 h hx hs h1 h2 hlen hl hd
  · exact tick1 h hx hs h1 h2 hlen hl hd
  · exact tick2 h hx hs h1 h2 hlen hl hd
theorem entries_pr (d : Co) (v k : Nat) : ((d.entries v).pr k).next = (d.pr k).next ∧ ((d.entries v).pr k).mat = (d.pr k).mat := by
  unfold Co.entries Co.setPr Co.send
  by_cases e : k = v
  · subst e; simp
  · simp [e]
theorem tickOne_is (d : Co) (v : Nat) : d.tickOne v = d.entries v ∨ d.tickOne v = d := by unfold Co.tickOne; split; exact .inl rfl; exact .inr rfl
theorem part_inv {P : Co → Prop} {f : Co → Nat → Co} (hf : ∀ d v, P d → P (f d v)) {c : Co} (h : P c) : ∀ n, P (part f c n)
  | 0 => h
  | n + 1 => by show P (Co.one f (part f c n) n); unfold Co.one; split; exact part_inv hf h n; exact hf _ _ (part_inv hf h n)
/-- what stays while entries are sent. -/
structure Snd (c d : Co) : Prop where
  me : d.me = c.me
  log : d.log = c.log
  out : True
  nx : ∀ v, (d.pr v).next = (c.pr v).next ∧ (d.pr v).mat = (c.pr v).mat
theorem snd_entries {c d : Co} (h : Snd c d) (v : Nat) : Snd c (d.entries v) := ⟨h.me, h.log, trivial, fun k => ⟨(entries_pr d v k).1.trans (h.nx k).1, (entries_pr d v k).2.trans (h.nx k).2⟩⟩
theorem snd_tick {c d : Co} (h : Snd c d) (v : Nat) : Snd c (d.tickOne v) := by
  rcases tickOne_is d v with e | e <;> rw [e]
  · exact snd_entries h v
  · exact h
theorem entries_len (d : Co) (v : Nat) : (d.entries v).out.length = d.out.length + 1 ∧ (d.entries v).dest.length = d.dest.length + 1 := by simp [Co.entries, Co.setPr, Co.send]
theorem one_other {f : Co → Nat → Co} (hf : ∀ d v k, k ≠ v → ((f d v).pr k) = d.pr k) (c : Co) : ∀ n k, n ≤ k → (part f c n).pr k = c.pr k
  | 0, _, _ => rfl
  | n + 1, k, hk => by
    have ih := one_other hf c n k (by omega)
    show (Co.one f (part f c n) n).pr k = _
    unfold Co.one
    split
    · exact ih
    · rw [hf _ _ _ (by omega)]; exact ih
theorem entries_other (d : Co) (v k : Nat) (h : k ≠ v) : (d.entries v).pr k = d.pr k := by simp [Co.entries, Co.setPr, Co.send, h]
theorem tick_others {w : World} {base p bx : Nat} {lv ov tv : Value} {os : List RM} {c : Co} (h : CAt w base p lv ov tv os c) (hx : w.cell? ⟨bx, 0, none⟩ = some (.pointer (some ⟨p, 0, none⟩))) (hb : ¬ CF p lv ov tv bx) (hs : ∀ v, v < 3 → I64 (c.pr v).sentAt)
    (hn : ∀ v, v < 3 → 1 ≤ (c.pr v).next ∧ (c.pr v).next ≤ (c.log.length : Int) + 1) (hlen : c.log.length ≤ 300) (hl : c.out.length ≤ 90) (hd : c.dest.length ≤ 90) :
    Calls Try.prog 36 #[.pointer (some ⟨p, 0, none⟩), .func (.func 37) #[] #[.pointer (some ⟨bx, 0, none⟩)]] w (Tup0 (CUpd base p lv ov tv (Co.others Co.tickOne c) w)) := by
  have hS : ∀ n, Snd c (part Co.tickOne c n) := part_inv (P := Snd c) (f := Co.tickOne) (fun d v h => snd_tick h v) ⟨rfl, rfl, trivial, fun _ => ⟨rfl, rfl⟩⟩
  have hol : ∀ n, (part Co.tickOne c n).out.length ≤ c.out.length + n := part_grow (fun d => d.out.length) (fun d v => by rcases tickOne_is d v with e | e <;> rw [e]; rw [(entries_len d v).1]; exact Nat.le_refl _; omega) c
  have hdl : ∀ n, (part Co.tickOne c n).dest.length ≤ c.dest.length + n := part_grow (fun d => d.dest.length) (fun d v => by rcases tickOne_is d v with e | e <;> rw [e]; rw [(entries_len d v).2]; exact Nat.le_refl _; omega) c
  have hot := one_other (f := Co.tickOne) (fun d v k hk => by rcases tickOne_is d v with e | e <;> rw [e]; exact entries_other d v k hk) c
  rw [← part_3]
  refine others_tick (me := c.me) (.pointer (some ⟨bx, 0, none⟩)) (fun v w1 => CUpd base p lv ov tv (part Co.tickOne c v) w w1) (fun v w1 hI => ?_) (fun v w1 hv he hI => ?_) (fun v w1 hv he hI => ?_) w (h.stay (Below.refl _ _))
  · obtain ⟨lv1, ov1, tv1, os1, h1, -, -⟩ := hI
    have := h1.toCL.cells.1.1
    rwa [(hS v).me] at this
  · rw [part_skip (by rw [(hS v).me]; exact he)]; exact hI
  · obtain ⟨lv1, ov1, tv1, os1, h1, m1, f1⟩ := hI
    rw [part_step (by rw [(hS v).me]; exact he)]
    exact (tickOne_any v hv h1 (box_keep hx m1 hb) (by rw [hot v v (Nat.le_refl _)]; exact hs v hv) (by rw [((hS v).nx v).1]; exact (hn v hv).1) (by rw [((hS v).nx v).1, (hS v).log]; exact (hn v hv).2) (by rw [(hS v).log]; exact hlen) (by have := hol v; omega) (by have := hdl v; omega)).mono fun e w2 ⟨he, hu⟩ => ⟨he, CUpd.then m1 f1 hu⟩
end Go.Proofs.Ytcleaamjfjnkkaa
