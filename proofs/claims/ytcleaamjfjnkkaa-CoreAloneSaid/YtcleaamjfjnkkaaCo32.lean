/- A voter that hears nobody. -/
import Derived.Test.YtcleaamjfjnkkaaCo31
import Derived.Deep.DeepCutAuto
namespace Go.Proofs.Ytcleaamjfjnkkaa
open Go.RowKit Go.Joins

theorem camp_two (c : Co) (draw : Int) (h : 0 ≤ c.me ∧ c.me < 3) : (c.campaign draw).out.length = c.out.length + 2 ∧ (c.campaign draw).term = c.term + 1 ∧ (c.campaign draw).role = 1 ∧ (c.campaign draw).commit = c.commit ∧ (c.campaign draw).log = c.log ∧ (c.out = [] → ∀ i, i < 2 → ((c.campaign draw).out.getD i default).kind = 1 ∧ ((c.campaign draw).out.getD i default).term = c.term + 1) := by
  obtain h0 | h0 | h0 : c.me = 0 ∨ c.me = 1 ∨ c.me = 2 := by omega
  all_goals
    unfold Co.campaign Co.others Co.one Co.campOne
    simp only [Co.setPr, Co.send, h0]
    refine ⟨by simp, by simp, by simp, by simp, by simp, fun he i hi => ?_⟩
    obtain rfl | rfl : i = 0 ∨ i = 1 := by omega
    all_goals simp [he, mg0]
theorem tick_alone (c : Co) (clock draw : Int) (h : 0 ≤ c.me ∧ c.me < 3) (hr : c.role ≠ 2) :
    ((c.tick clock draw).role ≠ 2 ∧ (c.tick clock draw).commit = c.commit ∧ (c.tick clock draw).log = c.log) ∧
    (((c.tick clock draw).out.length = 0 ∧ (c.tick clock draw).term = c.term) ∨ ((c.tick clock draw).out.length = 2 ∧ (c.tick clock draw).term = c.term + 1 ∧ c.term < 18446744073709551615 ∧ ∀ i, i < 2 → ((c.tick clock draw).out.getD i default).kind = 1 ∧ ((c.tick clock draw).out.getD i default).term = (c.tick clock draw).term)) := by
  unfold Co.tick
  simp only
  rw [if_neg (show ¬ (c.begin clock).role = 2 from hr)]
  split
  · rename_i hh
    simp only [Bool.and_eq_true, decide_eq_true_eq] at hh
    obtain ⟨e1, e2, e3, e4, e5, e6⟩ := camp_two (c.begin clock) draw h
    refine ⟨⟨by rw [e3]; omega, by rw [e4]; rfl, by rw [e5]; rfl⟩, .inr ⟨by rw [e1]; rfl, by rw [e2]; rfl, hh.2, fun i hi => ?_⟩⟩
    have := e6 rfl i hi
    exact ⟨this.1, this.2.trans e2.symm⟩
  · exact ⟨⟨hr, rfl, rfl⟩, .inl ⟨rfl, rfl⟩⟩
theorem i64s' {x : Int} (h : 0 ≤ x) (h2 : x ≤ 100000) : I64 x := ⟨by omega, by omega⟩
theorem check_n (a : Option Addr) (cap n : Nat) (es : List Ent) (hn : es.length = n) (w : World) (hE : Ents w a es) (hl : n ≤ 1000) (hwf : ∀ i, i < es.length → wfE (es.getD i default)) : Calls Try.prog 9 #[.slice a n cap] w (RetI (checkE es) w) := by
  subst hn
  exact check_any a cap es w hE (by unfold maxLen; omega) hwf
/-- at the head of a round. -/
def AloneR (W : World) (N m B p : Nat) (k : Nat) (v9 v10 v11 : Value) (wr : World) : Prop := ∃ (i : Nat) (c : Co) (lv ov tv : Value) (cl : Int), i + k = N ∧ v11 = .int .i64 (i : Int) ∧ v9 = .int .i64 cl ∧ (0 ≤ cl ∧ cl ≤ 50 * (i : Int)) ∧ v10 = .int .u64 c.term ∧ CL wr B p lv ov tv c ∧ Ok c ∧ c.role ≠ 2 ∧ c.commit = 0 ∧ c.log.length = m ∧ Below W.heap.size W wr
theorem take60 (n : Nat) : ∃ m, m = min n 60 ∧ (if (60 : Int) < (n : Int) then (60 : Int) else (n : Int)) = (m : Int) := ⟨min n 60, rfl, by split <;> omega⟩
theorem last_hi {es : List Ent} (h : ∀ e ∈ es, wfH e) : 0 ≤ lastT es ∧ lastT es ≤ 18446744073709551615 := by
  unfold lastT
  split
  · omega
  · rename_i hn
    have hl : es.length - 1 < es.length := by omega
    have := h _ (List.getElem_mem hl)
    simp only [List.getD, List.getElem?_eq_getElem hl, Option.getD_some]
    exact ⟨this.1.1, this.2⟩
set_option linter.unusedSimpArgs false in
set_option linter.unusedVariables false in
set_option maxHeartbeats 8000000 in
set_option maxRecDepth 100000 in
theorem lawAlone (me : Int) (a1 : Option Addr) (cap1 : Nat) (es : List Ent) (a2 : Option Addr) (cap2 : Nat) (ls : List Int) (W : World) (hme : 0 ≤ me ∧ me ≤ 255) (hin : InE W a1 cap1 es) (hby : InB W a2 cap2 ls) :
    Calls Try.prog 3 #[.int .u8 me, .slice a1 es.length cap1, .slice a2 ls.length cap2] W (RetB true W) := by
  have mixed : Try.prog.follows .mixedOrders = true := by kernel_rfl
  obtain ⟨m, hm, hif⟩ := take60 es.length
  have hle := hin.len
  have hcm := hin.capm
  have hmc : m ≤ cap1 := by omega
  have hmci : (m : Int) ≤ (cap1 : Int) := by omega
  have hm60 : m ≤ 60 := by omega
  have htk : (es.take 60).length = m := by simp; omega
  have HT := Lib.hid (And.intro htk (And.intro (show ∀ e ∈ es.take 60, wfH e from fun e he => hin.wf e (List.mem_of_mem_take he)) (ents_take hin.ents 60)))
  have HIN := Lib.hid hin
  have HBY := Lib.hid hby
  have HME := Lib.hid hme
  obtain ⟨hme0, hme1⟩ := hme
  have hown0 := Lib.hid (show OwnE (W.alloc (.cells #[] 30)) W.heap.size (.slice (some ⟨W.heap.size, 0, none⟩) 0 0) [] from World.ownsRow_made W #[] 0 (Nat.le_refl _) (Nat.zero_le _) rfl)
  have hB0 := Lib.hid (bel1 W (.cells #[] 30))
  generalize es.take 60 = fs at *
  clear hm hin hby htk hle hcm
  go_enter Try.func3, Try.ntmps3
  go_upto_region 1 with fail
  go_cut [1] (fun v1 wx => v1 = .slice a1 m cap1 ∧ W = wx)
  case first =>
    by_cases h6 : 60 < (es.length : Int)
    · obtain rfl : m = 60 := by rw [if_pos h6] at hif; omega
      clear hif
      go_wp2
      go_meet
      exact ⟨rfl, rfl⟩
    · have h7 : (es.length : Int) ≤ 60 := by omega
      obtain rfl : m = es.length := by rw [if_neg h6] at hif; omega
      clear hif h6
      go_wp2
      go_meet
      exact ⟨rfl, rfl⟩
  case rest =>
  obtain ⟨hc1, hc2⟩ := hcut
  subst hc1 hc2
  clear hif
  go_upto_region 3 with (at_builtin; refine app_ents rfl _ _ rfl W.heap.size _ [] rfl hown0.out a1 m cap1 fs HT.out.1 rfl (ents_below HT.out.2.2 hB0.out) HIN.out.nil0 (by simp [HT.out.1]; omega) (by simp) ?_; intro v' w' hown' hgrow; obtain ⟨a', c', hv', hsl', hblk'⟩ := own_sl hown'; rw [List.nil_append, HT.out.1] at hv'; subst hv'; have HO := Lib.hid (show OwnE w' W.heap.size (.slice a' m c') fs from hown'); have HG := Lib.hid (show Below W.heap.size W w' from ((Below.refl _ W).alloc (Nat.le_refl _) _).grown hgrow (by simp) (fun j hj => (World.ownsRow.lt hown0.out j hj).1)); clear hown' hgrow hsl' hblk')
  have HEN := Lib.hid (ents_below HT.out.2.2 HG.out)
  go_upto_if 26 with fail
  go_cut [] (fun wx => wx.heap[w'.heap.size]? = some (.cells #[.int .u64 (lastT fs), .int .i64 (-1), .slice a' m c'] 26 (0, 0)) ∧ Below w'.heap.size w' wx)
  case first =>
    by_cases h0 : m = 0
    · have hL : Hid (lastT fs = 0) := by rw [Hid, lastT, if_pos (HT.out.1.trans h0)]
      subst h0
      go_wp2
      go_meet
      exact ⟨by rw [hL.out]; exact heap_alloc_new w' _, bel1 _ _⟩
    · have hp : 0 < m := by omega
      have hpi : 0 < (m : Int) := by omega
      have hL : Hid ((fs.getD (m - 1) default).1 = lastT fs) := by rw [Hid, lastT, if_neg (by rw [HT.out.1]; exact h0), HT.out.1]
      obtain ⟨b, off, ha, hec⟩ := HEN.out (m - 1) (by rw [HT.out.1]; omega)
      subst ha
      have h1 := fun o => keepc' hec.1 (bel1 w' o)
      generalize (fs.getD (m - 1) default).1 = t at h1 hL
      clear h0 hec
      go_wp2
      go_meet
      exact ⟨by rw [← hL.out]; exact heap_alloc_new w' _, bel1 _ _⟩
  case rest =>
  obtain ⟨hbox, hbel⟩ := hcut
  have HBX := Lib.hid hbox
  have hbm := hbox
  have HBL := Lib.hid hbel
  have HOW := Lib.hid (OwnE.bel HO.out hbel)
  have HLT := Lib.hid (last_hi HT.out.2.1)
  have HWF := Lib.hid (wf_mem.2 (fun e he => (HT.out.2.1 e he).1) : ∀ i, i < fs.length → wfE (fs.getD i default))
  have HSL := Lib.hid (sl_of_own HOW.out)
  have HM60 := Lib.hid hm60
  have HSZ := Lib.hid (show Below W.heap.size W wc from HG.out.trans (hbel.mono HG.out.size))
  have hmod0 : 0 ≤ me % 3 := by omega
  have hmod1 : me % 3 ≤ 2 := by omega
  clear hbox hbel hm60
  cases hk : newOk (me % 3) (lastT fs) (-1) fs with
  | false =>
    have hck : checkE fs ≠ 0 := by
      intro e
      have : newOk (me % 3) (lastT fs) (-1) fs = true := by unfold newOk; simp only [Bool.and_eq_true, decide_eq_true_eq]; omega
      rw [this] at hk; cases hk
    have HNW := Lib.hid (new_no (me % 3) (lastT fs) (-1) 0 0 a' m c' fs HT.out.1 HSL.out (by rw [HT.out.1]; have := HM60.out; omega) HWF.out (i64s (by omega)) hk)
    have HCK := Lib.hid (fun w2 (hb : Below wc.heap.size wc w2) => check_n a' c' m fs HT.out.1 w2 (ents_below HSL.out.ents hb) (by have := HM60.out; omega) HWF.out)
    obtain ⟨ck, hck2⟩ : ∃ ck, ck = checkE fs := ⟨_, rfl⟩
    rw [← hck2] at HCK hck
    have hcb : (ck != 0) = true := by simp [hck]
    clear hk hck hck2
    go_upto_region 7 with (first
      | (with_reducible refine wpList_load_row rfl 26 (.tmp 7) rfl w'.heap.size rfl 26 _ (0, 0) _ hbm Try.underlying26 rfl (by kernel_rfl) ?_)
      | (go_at_call 8; refine HNW.out.mono ?_; rintro e w2 ⟨rfl, hb2⟩; have B2 := Lib.hid hb2; have hx2 := (cell_of (blk_below HBX.out hb2) 2 (v := .slice a' m c') rfl).1; clear hb2 hbm)
      | (go_at_call 9; refine (HCK.out _ B2.out).mono ?_; rintro e w3 ⟨rfl, hb3⟩; have B3 := Lib.hid hb3; clear hb3))
    go_wp2_with (go_at_call 10; refine (works_any _).mono ?_; rintro e w4 ⟨rfl, hb4⟩; have B4 := Lib.hid hb4; clear hb4)
    go_ret
    refine retB rfl ?_
    have s1 := HSZ.out.size
    have s2 := B2.out.size
    have s3 := B3.out.size
    exact ((HSZ.out.trans (B2.out.mono s1)).trans (B3.out.mono (by omega))).trans (B4.out.mono (by omega))
  | true =>
    have hck : checkE fs = 0 := by unfold newOk at hk; simp only [Bool.and_eq_true, decide_eq_true_eq] at hk; exact hk.1.1.1.2
    have HNW := Lib.hid (new_yes (me % 3) (lastT fs) (-1) 0 0 a' m c' fs HT.out.1 HSL.out (by rw [HT.out.1]; have := HM60.out; omega) HWF.out (i64s (by omega)) hk)
    have HNO := Lib.hid (ok_new (clock := 0) (draw := 0) hk HWF.out (i64s (by omega)) HLT.out)
    have HCK := Lib.hid (fun w2 (hb : Below wc.heap.size wc w2) => check_n a' c' m fs HT.out.1 w2 (ents_below HSL.out.ents hb) (by have := HM60.out; omega) HWF.out)
    rw [hck] at HCK
    clear hk hck
    go_upto_region 10 with (first
      | (with_reducible refine wpList_load_row rfl 26 (.tmp 7) rfl w'.heap.size rfl 26 _ (0, 0) _ hbm Try.underlying26 rfl (by kernel_rfl) ?_)
      | (go_at_call 8; refine HNW.out.mono ?_; rintro e w2 ⟨p, lv, rfl, hC, hb2⟩; have C2 := Lib.hid hC; have B2 := Lib.hid hb2; have hx2 := (cell_of (blk_below HBX.out hb2) 2 (v := .slice a' m c') rfl).1; clear hC hb2 hbm)
      | (go_at_call 9; refine (HCK.out _ B2.out).mono ?_; rintro e w3 ⟨rfl, hb3⟩; have B3 := Lib.hid hb3; have hx0 := (cell_of (blk_below (blk_below HBX.out B2.out) hb3) 0 (v := .int .u64 (lastT fs)) rfl).1; clear hb3))
    go_quiet (fail)
    go_wp2
    obtain ⟨N, hN, hN2⟩ : ∃ N : Nat, N = min ls.length 200 ∧ (N = ls.length ∨ N = 200) := ⟨min ls.length 200, rfl, by omega⟩
    have hNl : N ≤ ls.length := by omega
    have hN3 : N ≤ 200 := by omega
    have hlsm : (ls.length : Int) ≤ 9223372036854775807 := by have := HBY.out.len; have h5 := HBY.out.capm; unfold maxLen at h5; omega
    have HN := Lib.hid (And.intro hN2 (And.intro hNl hN3))
    have C4 := Lib.hid ((C2.out.below B3.out).below (below_drewN' _ nq))
    have B4 := Lib.hid (show Below W.heap.size W (w3.drewN nq) from (HSZ.out.trans (B2.out.mono HSZ.out.size)).trans ((B3.out.trans ((below_drewN' _ nq).mono B3.out.size)).mono (by have := HSZ.out.size; have := B2.out.size; omega)))
    have HBS := Lib.hid (show W.heap.size ≤ wc.heap.size from HSZ.out.size)
    clear hN hN2 hx0 hx2 hN3 hNl
    generalize w3.drewN nq = w4 at *
    go_loopg [9, 10, 11, 12, 13, 14] N (fun k v9 v10 v11 _ _ _ wr => AloneR W N m wc.heap.size p k v9 v10 v11 wr)
    case atStart => exact ⟨0, newC (me % 3) (lastT fs) (-1) fs 0 0, lv, NIL, NIL, 0, by omega, rfl, rfl, by omega, rfl, C4.out, HNO.out, by show (0 : Int) ≠ 2; omega, rfl, HT.out.1, B4.out⟩
    case round =>
      obtain ⟨i, c, lv1, ov1, tv1, cl, hik, rfl, rfl, hcl, rfl, hC, hok, hr, hcm, hlog, hbW⟩ := hrel
      clear C4 B4 C2 B2 B3 HNO HNW HCK HLT HWF HSL HOW HEN HG HO
      have C1 := Lib.hid hC
      have OK1 := Lib.hid hok
      have R1 := Lib.hid (And.intro hr (And.intro hcm hlog))
      have BW := Lib.hid hbW
      clear hC hok hr hcm hlog
      by_cases hlt : i < N
      · have hi1 : i < ls.length := by have := HN.out.2.1; omega
        have hi2 : (i : Int) < 200 := by have := HN.out.2.2; omega
        have hi3 : (i : Int) < (ls.length : Int) := by omega
        obtain ⟨b, off, ha2, hcell⟩ := HBY.out.cells i hi1
        subst ha2
        have kx := keepc' hcell hbW
        obtain ⟨hx0, hx1⟩ := HBY.out.by8 i
        generalize ls.getD i 0 = x at *
        obtain ⟨hc0, hc1⟩ := hcl
        have hm0 : 0 ≤ x % 50 := by omega
        have hm1 : x % 50 ≤ 49 := by omega
        have hd0 : 0 ≤ x / 16 := by omega
        have hd1 : x / 16 ≤ 15 := by omega
        obtain ⟨⟨hr2, hcm2, hlog2⟩, hcase⟩ := tick_alone c (cl + x % 50) (x / 16) OK1.out.me R1.out.1
        have OK2 := Lib.hid (Goo.tick OK1.out (clock := cl + x % 50) (i64s' (by omega) (by omega)) (x / 16)).ok
        have TK := Lib.hid (tick_any (cl + x % 50) (x / 16) (i64s' (by omega) (by omega)) (i64s (by omega)) C1.out OK1.out)
        generalize c.tick (cl + x % 50) (x / 16) = d at *
        have R2 := Lib.hid (And.intro hr2 (And.intro (hcm2.trans R1.out.2.1) ((congrArg List.length hlog2).trans R1.out.2.2)))
        have hrb : (d.role == 2) = false := by simp [hr2]
        clear hr2 hcm2 hlog2 hcell hbW
        rcases hcase with ⟨hout, hterm⟩ | ⟨hout, hterm, htm, hmsg⟩
        · have HOU := Lib.hid hout
          have HTE := Lib.hid hterm
          skip
          clear hout hterm 
          go_upto_region 16 with (go_at_call 11; refine TK.out.mono ?_; intro e w5 hO; obtain ⟨lv5, a5, cap5, tv5, os5, rfl, hN5⟩ := outN hO HOU.out; have N5 := Lib.hid hN5; clear hO hN5)
          have HD := Lib.hid (hard_any N5.out.cat.toCL (by rw [R2.out.2.2]; have := HM60.out; omega))
          go_upto_region 17 with (go_at_call 12; refine HD.out.mono ?_; rintro e w6 ⟨ah, ch, rfl, hoh, hbh⟩; have HB6 := Lib.hid hbh; clear hoh hbh)
          rw [HTE.out, R2.out.2.2]
          have hxo : ∀ (X : World) (h : Below w6.heap.size w6 X), CL X wc.heap.size p lv5 (.slice a5 0 cap5) tv5 d := fun X h => (N5.out.cat.toCL.below HB6.out).below h
          have HCX := Lib.hid hxo
          skip
          have HA7 := Lib.hid (heap_alloc_new w6 (.cells #[.int .u64 c.term, .int .i64 d.voted, .slice ah m ch] 26))
          have HB7 := Lib.hid (bel1 w6 (.cells #[.int .u64 c.term, .int .i64 d.voted, .slice ah m ch] 26))
          obtain ⟨hb6, hhb6⟩ : ∃ n, n = w6.heap.size := ⟨_, rfl⟩
          have HBT := Lib.hid (show Below W.heap.size W (w6.alloc (.cells #[.int .u64 c.term, .int .i64 d.voted, .slice ah m ch] 26)) from ((BW.out.trans (N5.out.below C1.out (by have := HBS.out; have := C1.out.lt.1; omega : wc.heap.size ≤ _) |>.mono HBS.out)).trans (HB6.out.mono (by have := BW.out.size; have := N5.out.mod.size; omega))).trans (HB7.out.mono (by have := BW.out.size; have := N5.out.mod.size; have := HB6.out.size; omega)))
          rw [← hhb6] at HA7
          have C7 := Lib.hid (HCX.out _ HB7.out)
          skip
          clear hxo
          generalize w6.alloc (.cells #[.int .u64 c.term, .int .i64 d.voted, .slice ah m ch] 26) = w7 at *
          rw [← hhb6]
          clear hhb6 HB7 HCX HD
          go_wp2
          go_loopg [14] 0 (fun k v14 wx => ∃ j : Nat, j + k = 0 ∧ v14 = .int .i64 (j : Int) ∧ ∃ q, wx = w7.drewN q)
          case atStart => exact ⟨0, by omega, rfl, 0, rfl⟩
          case round =>
            obtain ⟨j, hjk, rfl, q, hq⟩ := hrel
            have HQ := Lib.hid (show Below w7.heap.size w7 wr from hq ▸ below_drewN' w7 q)
            have HQ2 := Lib.hid hq
            clear hq
            have hb := blk_below HA7.out HQ.out
            obtain ⟨z0, z2⟩ := (And.intro (cell_of hb 0 (v := .int .u64 c.term) rfl).1 (cell_of hb 2 (v := .slice ah m ch) rfl).1)
            clear hb
            by_cases hj : j < 0
            · omega
            · obtain rfl : j = 0 := by omega
              have C8 := Lib.hid (C7.out.below HQ.out)
              have HRO := Lib.hid (role_any C8.out)
              have HCO := Lib.hid (commit_any C8.out)
              rw [R2.out.2.1] at HCO
              have HUN := Lib.hid (cuntil_any C8.out OK2.out.now (fun v hv => (OK2.out.pr v hv).1))
              rw [show d.until_ = 0 by unfold Co.until_; rw [if_neg R2.out.1]] at HUN
              skip
              go_wp2_with (first
                | (go_at_call 13; refine HRO.out.mono ?_; rintro e w8 ⟨rfl, rfl⟩)
                | (go_at_call 14; refine HCO.out.mono ?_; rintro e w8 ⟨rfl, rfl⟩)
                | (go_at_call 15; refine HUN.out.mono ?_; rintro e w9 ⟨rfl, hb9⟩; have HB9 := Lib.hid hb9; have y0 := keepc' z0 hb9; have y2 := keepc' z2 hb9; clear hb9))
              go_roundg (N - i - 1)
              case measure => omega
              case rel =>
                exact ⟨i + 1, d, lv5, _, tv5, cl + x % 50, by omega, by simp, rfl, by omega, by rw [HTE.out], C8.out.below HB9.out, OK2.out, R2.out.1, R2.out.2.1, R2.out.2.2, HBT.out.trans ((HQ.out.trans (HB9.out.mono HQ.out.size)).mono HBT.out.size)⟩
        · have HOU := Lib.hid hout
          have HTE := Lib.hid hterm
          have HMS := Lib.hid hmsg
          clear hout hterm hmsg
          go_upto_region 16 with (go_at_call 11; refine TK.out.mono ?_; intro e w5 hO; obtain ⟨lv5, a5, cap5, tv5, os5, rfl, hN5⟩ := outN hO HOU.out; have N5 := Lib.hid hN5; clear hO hN5)
          have HD := Lib.hid (hard_any N5.out.cat.toCL (by rw [R2.out.2.2]; have := HM60.out; omega))
          go_upto_region 17 with (go_at_call 12; refine HD.out.mono ?_; rintro e w6 ⟨ah, ch, rfl, hoh, hbh⟩; have HB6 := Lib.hid hbh; clear hoh hbh)
          rw [HTE.out, R2.out.2.2]
          have hxo : ∀ (X : World) (h : Below w6.heap.size w6 X), CL X wc.heap.size p lv5 (.slice a5 2 cap5) tv5 d := fun X h => (N5.out.cat.toCL.below HB6.out).below h
          have HCX := Lib.hid hxo
          obtain ⟨g, cu, rfl, hfg, -, hhg, hcg⟩ := N5.out.row (by omega)
          have HG6 := Lib.hid (blk_below hhg HB6.out)
          have HCG := Lib.hid hcg
          clear hfg hhg hcg
          have HA7 := Lib.hid (heap_alloc_new w6 (.cells #[.int .u64 (c.term + 1), .int .i64 d.voted, .slice ah m ch] 26))
          have HB7 := Lib.hid (bel1 w6 (.cells #[.int .u64 (c.term + 1), .int .i64 d.voted, .slice ah m ch] 26))
          obtain ⟨hb6, hhb6⟩ : ∃ n, n = w6.heap.size := ⟨_, rfl⟩
          have HBT := Lib.hid (show Below W.heap.size W (w6.alloc (.cells #[.int .u64 (c.term + 1), .int .i64 d.voted, .slice ah m ch] 26)) from ((BW.out.trans (N5.out.below C1.out (by have := HBS.out; have := C1.out.lt.1; omega : wc.heap.size ≤ _) |>.mono HBS.out)).trans (HB6.out.mono (by have := BW.out.size; have := N5.out.mod.size; omega))).trans (HB7.out.mono (by have := BW.out.size; have := N5.out.mod.size; have := HB6.out.size; omega)))
          rw [← hhb6] at HA7
          have C7 := Lib.hid (HCX.out _ HB7.out)
          have HG7 := Lib.hid (blk_below HG6.out HB7.out)
          clear hxo
          generalize w6.alloc (.cells #[.int .u64 (c.term + 1), .int .i64 d.voted, .slice ah m ch] 26) = w7 at *
          rw [← hhb6]
          clear hhb6 HB7 HCX HD
          go_wp2
          go_loopg [14] 2 (fun k v14 wx => ∃ j : Nat, j + k = 2 ∧ v14 = .int .i64 (j : Int) ∧ ∃ q, wx = w7.drewN q)
          case atStart => exact ⟨0, by omega, rfl, 0, rfl⟩
          case round =>
            obtain ⟨j, hjk, rfl, q, hq⟩ := hrel
            have HQ := Lib.hid (show Below w7.heap.size w7 wr from hq ▸ below_drewN' w7 q)
            have HQ2 := Lib.hid hq
            clear hq
            have hb := blk_below HA7.out HQ.out
            obtain ⟨z0, z2⟩ := (And.intro (cell_of hb 0 (v := .int .u64 (c.term + 1)) rfl).1 (cell_of hb 2 (v := .slice ah m ch) rfl).1)
            clear hb
            by_cases hj : j < 2
            · have hb2 := blk_below HG7.out HQ.out
              have k0 := (cell_of hb2 (j * 26) (v := .int .i64 1) (by have h5 := HCG.out j hj 0 _ rfl; rw [N5.out.kind j hj, (HMS.out j hj).1] at h5; simpa using h5)).1
              have k1 := (cell_of hb2 (j * 26 + 1) (v := .int .u64 (c.term + 1)) (by have h5 := HCG.out j hj 1 _ rfl; rw [N5.out.kind j hj, (HMS.out j hj).2, HTE.out] at h5; simpa using h5)).1
              have hji : (j : Int) < 2 := by omega
              clear hb2
              go_upto_region 20 with fail
              go_quiet (fail)
              go_wp2
              go_roundg (gk - 1)
              case measure => omega
              case rel => exact ⟨j + 1, by omega, by simp, q + nq, by rw [HQ2.out]; simp [World.drewN, Nat.add_assoc]⟩
            · obtain rfl : j = 2 := by omega
              have C8 := Lib.hid (C7.out.below HQ.out)
              have HRO := Lib.hid (role_any C8.out)
              have HCO := Lib.hid (commit_any C8.out)
              rw [R2.out.2.1] at HCO
              have HUN := Lib.hid (cuntil_any C8.out OK2.out.now (fun v hv => (OK2.out.pr v hv).1))
              rw [show d.until_ = 0 by unfold Co.until_; rw [if_neg R2.out.1]] at HUN
              have hw1 : decide (c.term + 1 < c.term) = false := decide_eq_false (by omega)
              have ht0 := OK1.out.term.1
              have hwt : IntKind.u64.wrap (c.term + 1) = c.term + 1 := by simp [IntKind.wrap, IntKind.signed, IntKind.bits]; omega
              go_wp2_with (first
                | (go_at_call 13; refine HRO.out.mono ?_; rintro e w8 ⟨rfl, rfl⟩)
                | (go_at_call 14; refine HCO.out.mono ?_; rintro e w8 ⟨rfl, rfl⟩)
                | (go_at_call 15; refine HUN.out.mono ?_; rintro e w9 ⟨rfl, hb9⟩; have HB9 := Lib.hid hb9; have y0 := keepc' z0 hb9; have y2 := keepc' z2 hb9; clear hb9))
              go_roundg (N - i - 1)
              case measure => omega
              case rel =>
                exact ⟨i + 1, d, lv5, _, tv5, cl + x % 50, by omega, by simp, rfl, by omega, by rw [HTE.out], C8.out.below HB9.out, OK2.out, R2.out.1, R2.out.2.1, R2.out.2.2, HBT.out.trans ((HQ.out.trans (HB9.out.mono HQ.out.size)).mono HBT.out.size)⟩
      · have hnot : N = i := by omega
        have hge : (ls.length : Int) ≤ (i : Int) ∨ 200 ≤ (i : Int) := by have := HN.out.1; omega
        by_cases h5 : (ls.length : Int) ≤ (i : Int)
        · have h6 : ls.length ≤ i := by omega
          go_wp2_with (go_at_call 10; refine (works_any _).mono ?_; rintro e w5 ⟨rfl, hb5⟩; have B5 := Lib.hid hb5; clear hb5)
          go_ret
          exact retB rfl (BW.out.trans (B5.out.mono BW.out.size))
        · have h6 : (i : Int) < (ls.length : Int) := by omega
          have h7 : 200 ≤ (i : Int) := by omega
          have h8 : i < ls.length := by omega
          go_wp2_with (go_at_call 10; refine (works_any _).mono ?_; rintro e w5 ⟨rfl, hb5⟩; have B5 := Lib.hid hb5; clear hb5)
          go_ret
          exact retB rfl (BW.out.trans (B5.out.mono BW.out.size))
end Go.Proofs.Ytcleaamjfjnkkaa
