/- Answers of an elder term. -/
import Derived.Test.YtcleaamjfjnkkaaCo35
import Derived.Deep.MidRow
namespace Go.Proofs.Ytcleaamjfjnkkaa
open Go.RowKit Go.Joins

theorem list17r {l : List Value} (h : l.length = 17) : ∃ r : Nat → Value, l = [r 0, r 1, r 2, r 3, r 4, r 5, r 6, r 7, r 8, r 9, r 10, r 11, r 12, r 13, r 14, r 15, r 16] ∧ ∀ i, i < 17 → r i ∈ l := by
  refine ⟨fun i => l.getD i undef, ?_, fun i hi => ?_⟩
  · obtain ⟨b0, b1, b2, b3, b4, b5, b6, b7, b8, b9, b10, b11, b12, b13, b14, b15, b16, rfl⟩ := list17 h
    rfl
  · simp only [List.getD, List.getElem?_eq_getElem (show i < l.length by omega), Option.getD_some]
    exact List.getElem_mem _
theorem short_any {w : World} (m : Mg) (ea : Option Addr) (ec : Nat) (r : Nat → Value) (hin : InE w ea ec m.ents) (hr : ∀ i, i < 17 → (r i).oneCell' = true) :
    ∃ k, (m.ents.take 20).length = k ∧ k ≤ 20 ∧ Calls Try.prog 16 #[.agg #[.int .i64 m.kind, .int .u64 m.term, .int .i64 m.prev, .int .u64 m.pterm, .slice ea m.ents.length ec, .int .i64 m.commit, .bool m.yes, .int .i64 m.mat, .int .i64 m.stamp, r 0, r 1, r 2, r 3, r 4, r 5, r 6, r 7, r 8, r 9, r 10, r 11, r 12, r 13, r 14, r 15, r 16]] w (ShortP m k r w) := by
  by_cases h : 20 < m.ents.length
  · exact ⟨20, by simp; omega, Nat.le_refl _, shortA m ea m.ents.length ec r rfl hin hr h⟩
  · exact ⟨m.ents.length, by simp; omega, by omega, shortB m ea m.ents.length ec r rfl hin hr (by omega)⟩
set_option maxRecDepth 100000 in
theorem fld0 (w : World) (x y z : Value) : (Instr.field 26 (.agg #[x, y, z]) 0).run Try.prog w = .ok x w := by kernel_rfl
set_option maxRecDepth 100000 in
theorem fld2 (w : World) (x y z : Value) : (Instr.field 26 (.agg #[x, y, z]) 2).run Try.prog w = .ok z w := by kernel_rfl
theorem stE_out (n t : Nat) : (stE n t).out.length = 0 := by unfold stE; split <;> rfl
def HardN (t v : Int) (n : Nat) (w : World) (e : Ending) (w' : World) : Prop := ∃ a cap, e = .returned (.agg #[.int .u64 t, .int .i64 v, .slice a n cap]) ∧ Below w.heap.size w w'
theorem hardN {t v : Int} {es : List Ent} {w : World} {e : Ending} {w' : World} {n : Nat} (h : HardP t v es w e w') (hn : es.length = n) : HardN t v n w e w' := by
  subst hn
  obtain ⟨a, c, h1, -, h3⟩ := h
  exact ⟨a, c, h1, h3⟩
theorem stE_f {n : Nat} (h : (est n).term = (n : Int) ∧ (est n).now = 46 * (n : Int) ∧ (est n).me = 0 ∧ (kA n).role = 1 ∧ (kB n).out.length = 2 ∧ (kC n).out.length = 0 ∧ (kC n).role = 2 ∧ (kC n).log.length = 1 ∧ (kC n).term = (n : Int) ∧ (kC n).me = 0 ∧ (kC n).now = 46 * (n : Int)) (t : Nat) : (stE n t).me = 0 ∧ (stE n t).term = (n : Int) := by
  unfold stE
  split
  · exact ⟨h.2.2.1, h.1⟩
  · exact ⟨h.2.2.2.2.2.2.2.2.2.1, h.2.2.2.2.2.2.2.2.1⟩
def EldR (W : World) (B n p : Nat) (k : Nat) (v6 v7 : Value) (wr : World) : Prop := ∃ (i : Nat) (lv ov tv : Value), i + k = n ∧ v7 = .int .i64 (i : Int) ∧ v6 = .int .i64 (46 * (i : Int)) ∧ CL wr B p lv ov tv (est i) ∧ Below W.heap.size W wr
def EldT (W : World) (B n p : Nat) (k : Nat) (v9 : Value) (wr : World) : Prop := ∃ (t : Nat) (lv ov tv : Value) (c : Co), t + k = 2 ∧ v9 = .int .i64 (t : Int) ∧ CL wr B p lv ov tv c ∧ Alike (46 * (n : Int)) (stE n t) c ∧ Below W.heap.size W wr
def EldI (W : World) (B p N : Nat) (clk : Int) (S : Co) (k : Nat) (v10 : Value) (wr : World) : Prop := ∃ (j : Nat) (lv ov tv : Value) (c : Co), j + k = N ∧ v10 = .int .i64 (j : Int) ∧ CL wr B p lv ov tv c ∧ Alike clk S c ∧ Below W.heap.size W wr
set_option linter.unusedSimpArgs false in
set_option linter.unusedVariables false in
set_option maxHeartbeats 8000000 in
set_option maxRecDepth 100000 in
theorem lawElder (tries : Int) (a1 : Option Addr) (cap1 : Nat) (ms : List IM) (W : World) (htr : 0 ≤ tries ∧ tries ≤ 255) (hin : InM W a1 cap1 ms) :
    Calls Try.prog 4 #[.int .u8 tries, .slice a1 ms.length cap1] W (RetB true W) := by
  obtain ⟨i0, hi0, hi8⟩ : ∃ i0 : Nat, (i0 : Int) = tries % 8 ∧ i0 < 8 := ⟨(tries % 8).toNat, by omega, by omega⟩
  obtain ⟨n, hn⟩ : ∃ n : Nat, n = i0 + 1 := ⟨_, rfl⟩
  have hn1 : (n : Int) = 1 + tries % 8 := by omega
  have HF := Lib.hid (est_fin i0 hi8)
  rw [← hn] at HF
  have HNN := Lib.hid (show 1 ≤ n ∧ n ≤ 8 by omega)
  have HN1 := Lib.hid hn1
  have HIN := Lib.hid hin
  obtain ⟨ht0, ht1⟩ := htr
  have hq0 : 0 ≤ tries % 8 := by omega
  have hq1 : tries % 8 ≤ 7 := by omega
  obtain ⟨N, hN, hN2⟩ : ∃ N : Nat, N = min ms.length 30 ∧ (N = ms.length ∨ N = 30) := ⟨min ms.length 30, rfl, by omega⟩
  have HN := Lib.hid (And.intro hN2 (show N ≤ ms.length ∧ N ≤ 30 by omega))
  have hlsm : (ms.length : Int) ≤ 9223372036854775807 := by have h4 := hin.len; have h5 := hin.capm; unfold maxLen at h5; omega
  clear hn hi0 hi8 hin hN hN2 hn1
  have hf0 := fld0
  have hf2 := fld2
  go_enter Try.func4, Try.ntmps4
  go_wp2_with (go_at_call 8; refine (new_wo _).mono ?_; rintro e w1 ⟨p, lv, rfl, hC, hB⟩; have C0 := Lib.hid hC; have B0 := Lib.hid hB; clear hC hB)
  go_loopg [6, 7] n (fun k v6 v7 wr => EldR W W.heap.size n p k v6 v7 wr)
  case atStart => exact ⟨0, lv, NIL, NIL, by omega, rfl, rfl, C0.out, B0.out⟩
  case round =>
    obtain ⟨i, lv1, ov1, tv1, hik, rfl, rfl, hC, hbW⟩ := hrel
    have C1 := Lib.hid hC
    have BW := Lib.hid hbW
    clear hC hbW C0 B0
    by_cases hlt : i < n
    · have hli : (i : Int) < 1 + tries % 8 := by have := HN1.out; omega
      have hi7 : (i : Int) ≤ 7 := by omega
      have hi0 : 0 ≤ (i : Int) := by omega
      have TK := Lib.hid (tick_any (46 * (i : Int) + 30 + 16) 0 (i64s (by omega)) (i64s (by omega)) C1.out (est_ok i (by have := HNN.out; omega)))
      have EO := Lib.hid (est_out i (by have := HNN.out; omega))
      go_wp2_with (go_at_call 11; refine TK.out.mono ?_; intro e w2 hO; obtain ⟨lv2, a2, cap2, tv2, os2, rfl, hN⟩ := outN (c' := est (i + 1)) hO EO.out; have N2 := Lib.hid hN; clear hO hN)
      go_roundg (gk - 1)
      case measure => omega
      case rel => exact ⟨i + 1, lv2, _, tv2, by omega, by simp, congrArg (Value.int .i64) (by omega), N2.out.cat.toCL, BW.out.trans (N2.out.below C1.out (Nat.le_trans (Nat.le_refl _) BW.out.size))⟩
    · obtain rfl : i = n := by omega
      have hge : 1 + tries % 8 ≤ (i : Int) := by have := HN1.out; omega
      have hn1 : 1 ≤ (i : Int) := by have := HNN.out; omega
      have hn8 : (i : Int) ≤ 8 := by have := HNN.out; omega
      have HD := Lib.hid (hard_any C1.out (est_ok i HNN.out.2).log)
      rw [HF.out.1] at HD
      go_wp2_with (go_at_call 12; refine HD.out.mono ?_; rintro e w2 ⟨ah, ch, rfl, -, hbh⟩; have B2 := Lib.hid hbh; clear hbh)
      have AL0 := Lib.hid (show Alike (46 * (i : Int)) (stE i 0) (est i) from ⟨rfl, HF.out.2.1, est_ok i HNN.out.2⟩)
      have C2 := Lib.hid (C1.out.below B2.out)
      have BW2 := Lib.hid (BW.out.trans (B2.out.mono BW.out.size))
      clear HD hge
      go_loopg [9, 10, 11, 12, 13, 14, 15, 16, 17] 2 (fun k v9 _ _ _ _ _ _ _ _ wr => EldT W W.heap.size i p k v9 wr)
      case atStart => exact ⟨0, lv1, ov1, tv1, est i, by omega, rfl, C2.out, AL0.out, BW2.out⟩
      case round =>
        obtain ⟨t, lv3, ov3, tv3, c, htk, rfl, hC, hA, hbW⟩ := hrel
        clear C1 C2 BW BW2 B2 AL0
        have C3 := Lib.hid hC
        have A3 := Lib.hid hA
        have BW3 := Lib.hid hbW
        clear hC hA hbW
        by_cases htt : t < 2
        · have hti : (t : Int) < 2 := by omega
          have HS := Lib.hid (show (stE i t).me = 0 ∧ (stE i t).term = (i : Int) from stE_f HF.out t)
          have HST := Lib.hid (show stE i t = stE i t from rfl)
          go_wp2
          go_loopg [10, 11, 12, 13, 14, 15] N (fun k v10 _ _ _ _ _ wr => EldI W W.heap.size p N (46 * (i : Int)) (stE i t) k v10 wr)
          case atStart => exact ⟨0, lv3, ov3, tv3, c, by omega, rfl, C3.out, A3.out, BW3.out⟩
          case round =>
            obtain ⟨j, lv4, ov4, tv4, d, hjk, rfl, hC, hA, hbW⟩ := hrel
            clear C3 A3 BW3
            have C4 := Lib.hid hC
            have A4 := Lib.hid hA
            have BW4 := Lib.hid hbW
            clear hC hA hbW
            by_cases hj : j < N
            · have hj1 : j < ms.length := by have := HN.out.2.1; omega
              have hj2 : (j : Int) < 30 := by have := HN.out.2.2; omega
              have hj3 : (j : Int) < (ms.length : Int) := by omega
              have hp0 : 0 ≤ (j : Int) % 2 := by omega
              have hp1 : (j : Int) % 2 ≤ 1 := by omega
              obtain ⟨b, off, ha, hcl⟩ := HIN.out.cells j hj1
              subst ha
              have hok := HIN.out.ok j hj1
              generalize ms.getD j default = y at *
              obtain ⟨⟨ea, ec, m⟩, l⟩ := y
              obtain ⟨r, hl, hr⟩ := list17r hok.len
              have hr1 : ∀ q, q < 17 → (r q).oneCell' = true := fun q hq => hok.one _ (hr q hq)
              subst hl
              have RG := Lib.hid (show wr.rangeAt b (off + j * 26) [.int .i64 m.kind, .int .u64 m.term, .int .i64 m.prev, .int .u64 m.pterm, .slice ea m.ents.length ec, .int .i64 m.commit, .bool m.yes, .int .i64 m.mat, .int .i64 m.stamp, r 0, r 1, r 2, r 3, r 4, r 5, r 6, r 7, r 8, r 9, r 10, r 11, r 12, r 13, r 14, r 15, r 16] from fun q v hv => by
                have hq : q < 26 := (List.getElem?_eq_some_iff.1 hv).1
                have h5 := hcl q hq
                rw [show off + j * 26 + q = off + (j * 26 + q) by omega]
                exact keepc' (h5.trans hv) BW4.out)
              obtain ⟨kk, hkl, hk20, hsh⟩ := short_any (w := wr) m ea ec r ⟨ents_below hok.ents.ents BW4.out, hok.ents.nil0, hok.ents.len, hok.ents.capm, hok.ents.wf⟩ hr1
              have SH := Lib.hid hsh
              have HOKM := Lib.hid (And.intro hok.term (And.intro hok.prev (And.intro hok.commit (And.intro hok.mat (And.intro hok.stamp (And.intro hkl (show ∀ e ∈ m.ents, wfH e from hok.ents.wf)))))))
              have HR1 := Lib.hid hr1
              have hmt0 : 0 ≤ m.term := hok.term.1
              clear hcl hok hr hkl hsh hr1
              go_upto_region 19 with (first
                | (with_reducible refine wpList_load_mid rfl 46 (.tmp 57) rfl b (off + j * 26) rfl _ _ RG.out Try.underlying46 rfl (by kernel_rfl) ?_)
                | (with_reducible refine wpList_store_row rfl 46 (.tmp 11) (.tmp 59) rfl w5.heap.size _ rfl rfl 46 _ (heap_alloc_new w5 _) (by kernel_rfl) (by kernel_rfl) H1.out ?_)
                | (go_at_call 16; refine SH.out.mono ?_; rintro e w5 ⟨a5, c5, rfl, ho5, hb5⟩; have O5 := Lib.hid ho5; have B5 := Lib.hid hb5; have H1 := Lib.hid (marr_one (m := m) (a := a5) (k := kk) (c := c5) HR1.out); clear ho5 hb5))
              have hms : Mod (fun k => k = w5.heap.size) (w5.alloc (.cells #[.int .i64 0, .int .u64 0, .int .i64 0, .int .u64 0, .slice none 0 0, .int .i64 0, .bool false, .int .i64 0, .int .i64 0, .int .u64 0, .int .i64 0, .bool false, .slice none 0 0, .int .i64 0, .int .u64 0, .int .u64 0, .int .u64 0, .int .u64 0, .int .i64 0, .int .u64 0, .int .u64 0, .int .u64 0, .int .u64 0, .int .i64 0, .int .i64 0, .slice none 0 0] 46)) ((w5.alloc (.cells #[.int .i64 0, .int .u64 0, .int .i64 0, .int .u64 0, .slice none 0 0, .int .i64 0, .bool false, .int .i64 0, .int .i64 0, .int .u64 0, .int .i64 0, .bool false, .slice none 0 0, .int .i64 0, .int .u64 0, .int .u64 0, .int .u64 0, .int .u64 0, .int .i64 0, .int .u64 0, .int .u64 0, .int .u64 0, .int .u64 0, .int .i64 0, .int .i64 0, .slice none 0 0] 46)).setRow w5.heap.size (mArr m a5 kk c5 r)) := ⟨rfl, rfl, rfl, by simp [World.setRow], fun k _ hk => setRow_other _ _ _ _ hk⟩
              have B9 := Lib.hid (show Below w5.heap.size w5 ((w5.alloc (.cells #[.int .i64 0, .int .u64 0, .int .i64 0, .int .u64 0, .slice none 0 0, .int .i64 0, .bool false, .int .i64 0, .int .i64 0, .int .u64 0, .int .i64 0, .bool false, .slice none 0 0, .int .i64 0, .int .u64 0, .int .u64 0, .int .u64 0, .int .u64 0, .int .i64 0, .int .u64 0, .int .u64 0, .int .u64 0, .int .u64 0, .int .i64 0, .int .i64 0, .slice none 0 0] 46)).setRow w5.heap.size (mArr m a5 kk c5 r)) from (bel1 w5 _).trans (hms.below (by simp) (fun k e => by omega)))
              have M9 := Lib.hid (setRow_heap _ w5.heap.size _ (mArr m a5 kk c5 r) _ _ (heap_alloc_new w5 (.cells #[.int .i64 0, .int .u64 0, .int .i64 0, .int .u64 0, .slice none 0 0, .int .i64 0, .bool false, .int .i64 0, .int .i64 0, .int .u64 0, .int .i64 0, .bool false, .slice none 0 0, .int .i64 0, .int .u64 0, .int .u64 0, .int .u64 0, .int .u64 0, .int .i64 0, .int .u64 0, .int .u64 0, .int .u64 0, .int .u64 0, .int .i64 0, .int .i64 0, .slice none 0 0] 46)))
              clear hms
              generalize (w5.alloc (.cells #[.int .i64 0, .int .u64 0, .int .i64 0, .int .u64 0, .slice none 0 0, .int .i64 0, .bool false, .int .i64 0, .int .i64 0, .int .u64 0, .int .i64 0, .bool false, .slice none 0 0, .int .i64 0, .int .u64 0, .int .u64 0, .int .u64 0, .int .u64 0, .int .i64 0, .int .u64 0, .int .u64 0, .int .u64 0, .int .u64 0, .int .i64 0, .int .i64 0, .slice none 0 0] 46)).setRow w5.heap.size (mArr m a5 kk c5 r) = w9 at *
              obtain ⟨x0, x0f⟩ := cell_of M9.out 0 (v := .int .i64 m.kind) rfl
              obtain ⟨x1, x1f⟩ := cell_of M9.out 1 (v := .int .u64 m.term) rfl
              have hi0 : 0 < (i : Int) := by omega
              have hme0 : 0 ≤ m.term % (i : Int) := Int.emod_nonneg _ (by omega)
              have hme1 : m.term % (i : Int) < (i : Int) := Int.emod_lt_of_pos _ hi0
              go_upto_region 21 with fail
              have M10 := Lib.hid (show ((w9.setCell ⟨w5.heap.size, 0, none⟩ (.int .i64 (2 + 2 * ((j : Int) % 2)))).setCell ⟨w5.heap.size, 1, none⟩ (.int .u64 (m.term % (i : Int)))).heap[w5.heap.size]? = some (.cells (mArr { m with ents := m.ents.take 20, kind := 2 + 2 * ((j : Int) % 2), term := m.term % (i : Int) } a5 kk c5 r) 46 (0, 0)) by rw [setCell_blk (setCell_blk M9.out)]; rfl)
              have BB := Lib.hid (show Below w5.heap.size w5 ((w9.setCell ⟨w5.heap.size, 0, none⟩ (.int .i64 (2 + 2 * ((j : Int) % 2)))).setCell ⟨w5.heap.size, 1, none⟩ (.int .u64 (m.term % (i : Int)))) from B9.out.trans (((Mod.cellOf w5.heap.size 0 _).trans (Mod.cellOf w5.heap.size 1 _)).below B9.out.size (fun k e => by omega)))
              clear x0 x0f x1 x1f
              generalize (w9.setCell ⟨w5.heap.size, 0, none⟩ (.int .i64 (2 + 2 * ((j : Int) % 2)))).setCell ⟨w5.heap.size, 1, none⟩ (.int .u64 (m.term % (i : Int))) = w10 at *
              have B10 := Lib.hid (B5.out.trans (BB.out.mono B5.out.size))
              have C10 := Lib.hid (C4.out.below B10.out)
              obtain ⟨fr, fc, ft, fme, fu, -⟩ := A4.out.f
              have HRO := Lib.hid (role_any C10.out)
              have HCO := Lib.hid (commit_any C10.out)
              have HUN := Lib.hid (cuntil_any C10.out A4.out.ok.now (fun v hv => (A4.out.ok.pr v hv).1))
              rw [fr] at HRO
              rw [fc] at HCO
              rw [fu] at HUN
              clear fr fc ft fme fu
              go_upto_region 22 with (first
                | (go_at_call 13; refine HRO.out.mono ?_; rintro e w11 ⟨rfl, rfl⟩)
                | (go_at_call 14; refine HCO.out.mono ?_; rintro e w11 ⟨rfl, rfl⟩)
                | (go_at_call 15; refine HUN.out.mono ?_; rintro e w11 ⟨rfl, hb⟩; have B11 := Lib.hid hb; clear hb))
              have MOK := Lib.hid (show MOk ({ m with ents := m.ents.take 20, kind := 2 + 2 * ((j : Int) % 2), term := m.term % (i : Int) } : Mg) from ⟨⟨by show 0 ≤ m.term % (i : Int); omega, by show m.term % (i : Int) ≤ _; omega⟩, HOKM.out.2.1, HOKM.out.2.2.1, HOKM.out.2.2.2.1, HOKM.out.2.2.2.2.1, by show (m.ents.take 20).length ≤ 1000; rw [HOKM.out.2.2.2.2.2.1]; omega, wf_mem.2 (fun e he => (HOKM.out.2.2.2.2.2.2 e (List.mem_of_mem_take he)).1)⟩)
              have EA := Lib.hid (show EAt w11 (CF p lv4 NIL NIL) ⟨a5, c5, ({ m with ents := m.ents.take 20, kind := 2 + 2 * ((j : Int) % 2), term := m.term % (i : Int) } : Mg)⟩ from by
                have hs := sl_of_own O5.out
                refine ⟨(hs.below BB.out).below B11.out, fun b2 off2 e => ?_⟩
                obtain ⟨ax, cx, hv, -, hblk⟩ := own_sl O5.out
                simp at hv
                obtain ⟨rfl, -, -⟩ := hv
                have h5 := hblk b2 off2 e
                have h6 := BB.out.size
                have h7 := B11.out.size
                refine ⟨by omega, ?_⟩
                rintro (e | e | e | e)
                · have := C4.out.lt.1; omega
                · have := (C4.out.lt.2 _ e).2; omega
                · cases e
                · cases e)
              have HH := Lib.hid (handle_any ({ m with ents := m.ents.take 20, kind := 2 + 2 * ((j : Int) % 2), term := m.term % (i : Int) } : Mg) a5 kk c5 r (1 + (j : Int) % 2) (46 * (i : Int)) 0 (i64s (by omega)) (i64s (by omega)) (C10.out.below B11.out) A4.out.ok MOK.out HOKM.out.2.2.2.2.2.1 EA.out)
              rw [A4.out.elder HS.out.1 (by omega) (by show (2 + 2 * ((j : Int) % 2) = 2 ∨ 2 + 2 * ((j : Int) % 2) = 4); omega) (by rw [HS.out.2]; show m.term % (i : Int) < (i : Int); exact hme1)] at HH
              have M11 := Lib.hid (blk_below M10.out B11.out)
              go_upto_region 23 with (first
                | (with_reducible refine wpList_load_row rfl 46 (.tmp 11) rfl w5.heap.size rfl 46 _ (0, 0) _ M11.out Try.underlying46 rfl (by kernel_rfl) ?_)
                | (go_at_call 17; refine HH.out.mono ?_; intro e w12 hO; obtain ⟨lv5, a12, cap12, tv12, os12, rfl, hN⟩ := outN (c' := stE i t) hO (stE_out i t); have N12 := Lib.hid hN; clear hO hN))
              have AS := Lib.hid A4.out.self
              have C12 := Lib.hid N12.out.cat.toCL
              have HRO2 := Lib.hid (role_any C12.out)
              have HCO2 := Lib.hid (commit_any C12.out)
              have HUN2 := Lib.hid (cuntil_any C12.out AS.out.ok.now (fun v hv => (AS.out.ok.pr v hv).1))
              have HHA := Lib.hid (fun X (hb : Below w12.heap.size w12 X) => hard_any (C12.out.below hb) AS.out.ok.log)
              rw [HS.out.2] at HHA
              go_wp2_with (first
                | (go_at_call 13; refine HRO2.out.mono ?_; rintro e w13 ⟨rfl, rfl⟩)
                | (go_at_call 14; refine HCO2.out.mono ?_; rintro e w13 ⟨rfl, rfl⟩)
                | (go_at_call 15; refine HUN2.out.mono ?_; rintro e w13 ⟨rfl, hb⟩; have B13 := Lib.hid hb; clear hb)
                | (go_at_call 12; refine (HHA.out _ B13.out).mono ?_; rintro e w14 ⟨ah2, ch2, rfl, -, hb⟩; have B14 := Lib.hid hb; clear hb))
              go_roundg (gk - 1)
              case measure => omega
              case rel =>
                have b11 := (B10.out.trans (B11.out.mono B10.out.size))
                have bA := BW4.out.trans (b11.mono BW4.out.size)
                have b12 := N12.out.below (C10.out.below B11.out) (Nat.le_trans (Nat.le_refl _) bA.size)
                have b14 := B13.out.trans (B14.out.mono B13.out.size)
                exact ⟨j + 1, lv5, _, tv12, stE i t, by omega, by simp, C12.out.below b14, AS.out, (bA.trans b12).trans (b14.mono (bA.trans b12).size)⟩
            · have hjN : N = j := by omega
              by_cases hl5 : ms.length ≤ j
              · have hli : (ms.length : Int) ≤ (j : Int) := by omega
                by_cases ht9 : t = 0
                · have htb : ((t : Int) == 0) = true := by simp [ht9]
                  have hbg : d.begin (46 * (i : Int)) = kS0 i := by have h5 := A4.out.eq; rw [ht9] at h5; exact h5
                  have eA : Hid (d.handle 2 (vA i false) (46 * (i : Int)) 0 = kA i) := by show _ = _; unfold kA; rw [← hbg]; rfl
                  have VO := Lib.hid (fun y => vA_ok i HNN.out.2 y)
                  have HA := Lib.hid (handle_any (vA i false) none 0 0 zr 2 (46 * (i : Int)) 0 (i64s (by omega)) (i64s (by omega)) C4.out A4.out.ok (VO.out false) rfl (eat_nil rfl))
                  rw [eA.out] at HA
                  have OKA := Lib.hid (show Ok (kA i) from by rw [← eA.out]; exact (Goo.handle A4.out.ok (VO.out false) (i64s (by omega)) 0).ok)
                  have OKB := Lib.hid (show Ok (kB i) from (Goo.handle OKA.out (VO.out true) (i64s (by omega)) 0).ok)
                  have OKC := Lib.hid (show Ok (kC i) from (Goo.handle OKB.out (VO.out true) (i64s (by omega)) 0).ok)
                  have ht9' := Lib.hid ht9
                  clear ht9 hbg
                  go_upto_region 27 with (go_at_call 17; refine HA.out.mono ?_; intro e w5 hO; obtain ⟨lv5, ov5, tv5, os5, rfl, hC5, hM5, hF5⟩ := hO; have C5 := Lib.hid hC5; have B5 := Lib.hid (hM5.below (B := W.heap.size) (Nat.le_trans (Nat.le_refl _) BW4.out.size) (fun k hk => by rcases hk with e | e | e | e; (have := C4.out.lt.1; omega); exact (C4.out.lt.2 k e).1; cases e; cases e)); clear hC5 hM5 hF5)
                  have HRA := Lib.hid (role_any C5.out.toCL)
                  rw [HF.out.2.2.2.1] at HRA
                  have HB := Lib.hid (handle_any (vA i true) none 0 0 zr 1 (46 * (i : Int)) 0 (i64s (by omega)) (i64s (by omega)) C5.out.toCL OKA.out (VO.out true) rfl (eat_nil rfl))
                  go_upto_region 30 with (first
                    | (go_at_call 13; refine HRA.out.mono ?_; rintro e w6 ⟨rfl, rfl⟩)
                    | (go_at_call 17; refine HB.out.mono ?_; intro e w6 hO; obtain ⟨lv6, a6, cap6, tv6, os6, rfl, hN⟩ := outN (c' := kB i) hO HF.out.2.2.2.2.1; have N6 := Lib.hid hN; clear hO hN))
                  have HC := Lib.hid (handle_any (vA i true) none 0 0 zr 2 (46 * (i : Int)) 0 (i64s (by omega)) (i64s (by omega)) N6.out.cat.toCL OKB.out (VO.out true) rfl (eat_nil rfl))
                  go_upto_region 31 with (go_at_call 17; refine HC.out.mono ?_; intro e w7 hO; obtain ⟨lv7, a7, cap7, tv7, os7, rfl, hN⟩ := outN (c' := kC i) hO HF.out.2.2.2.2.2.1; have N7 := Lib.hid hN; clear hO hN)
                  have HRC := Lib.hid (role_any N7.out.cat.toCL)
                  rw [HF.out.2.2.2.2.2.2.1] at HRC
                  have HHC := Lib.hid ((hard_any N7.out.cat.toCL OKC.out.log).mono (fun e w' h => hardN h HF.out.2.2.2.2.2.2.2.1))
                  go_wp2_with (first
                    | (go_at_call 13; refine HRC.out.mono ?_; rintro e w8 ⟨rfl, rfl⟩)
                    | (go_at_call 12; refine HHC.out.mono ?_; rintro e w8 ⟨ah3, ch3, rfl, hb⟩; have B8 := Lib.hid hb; clear hb))
                  go_roundg 1
                  case measure => have := ht9'.out; omega
                  case rel =>
                    have b5 := BW4.out.trans B5.out
                    have b6 := b5.trans (N6.out.below C5.out.toCL b5.size)
                    have b7 := b6.trans (N7.out.below N6.out.cat.toCL b6.size)
                    exact ⟨t + 1, lv7, _, tv7, kC i, by have := ht9'.out; omega, by simp, N7.out.cat.toCL.below B8.out, ⟨by unfold stE; rw [if_neg (by omega)], HF.out.2.2.2.2.2.2.2.2.2.2, OKC.out⟩, b7.trans (B8.out.mono b7.size)⟩
                · have htb : ((t : Int) == 0) = false := by simp; omega
                  have ht9' := Lib.hid ht9
                  clear ht9
                  go_wp2
                  go_roundg 0
                  case measure => have := ht9'.out; omega
                  case rel => exact ⟨t + 1, lv4, ov4, tv4, d, by have := ht9'.out; omega, by simp, C4.out, by have h5 := A4.out; unfold stE at h5 ⊢; rw [if_neg ht9'.out] at h5; rw [if_neg (by omega)]; exact h5, BW4.out⟩
              · have hli : (j : Int) < (ms.length : Int) := by omega
                have hl3 : 30 ≤ (j : Int) := by have := HN.out.1; omega
                by_cases ht9 : t = 0
                · have htb : ((t : Int) == 0) = true := by simp [ht9]
                  have hbg : d.begin (46 * (i : Int)) = kS0 i := by have h5 := A4.out.eq; rw [ht9] at h5; exact h5
                  have eA : Hid (d.handle 2 (vA i false) (46 * (i : Int)) 0 = kA i) := by show _ = _; unfold kA; rw [← hbg]; rfl
                  have VO := Lib.hid (fun y => vA_ok i HNN.out.2 y)
                  have HA := Lib.hid (handle_any (vA i false) none 0 0 zr 2 (46 * (i : Int)) 0 (i64s (by omega)) (i64s (by omega)) C4.out A4.out.ok (VO.out false) rfl (eat_nil rfl))
                  rw [eA.out] at HA
                  have OKA := Lib.hid (show Ok (kA i) from by rw [← eA.out]; exact (Goo.handle A4.out.ok (VO.out false) (i64s (by omega)) 0).ok)
                  have OKB := Lib.hid (show Ok (kB i) from (Goo.handle OKA.out (VO.out true) (i64s (by omega)) 0).ok)
                  have OKC := Lib.hid (show Ok (kC i) from (Goo.handle OKB.out (VO.out true) (i64s (by omega)) 0).ok)
                  have ht9' := Lib.hid ht9
                  clear ht9 hbg
                  go_upto_region 27 with (go_at_call 17; refine HA.out.mono ?_; intro e w5 hO; obtain ⟨lv5, ov5, tv5, os5, rfl, hC5, hM5, hF5⟩ := hO; have C5 := Lib.hid hC5; have B5 := Lib.hid (hM5.below (B := W.heap.size) (Nat.le_trans (Nat.le_refl _) BW4.out.size) (fun k hk => by rcases hk with e | e | e | e; (have := C4.out.lt.1; omega); exact (C4.out.lt.2 k e).1; cases e; cases e)); clear hC5 hM5 hF5)
                  have HRA := Lib.hid (role_any C5.out.toCL)
                  rw [HF.out.2.2.2.1] at HRA
                  have HB := Lib.hid (handle_any (vA i true) none 0 0 zr 1 (46 * (i : Int)) 0 (i64s (by omega)) (i64s (by omega)) C5.out.toCL OKA.out (VO.out true) rfl (eat_nil rfl))
                  go_upto_region 30 with (first
                    | (go_at_call 13; refine HRA.out.mono ?_; rintro e w6 ⟨rfl, rfl⟩)
                    | (go_at_call 17; refine HB.out.mono ?_; intro e w6 hO; obtain ⟨lv6, a6, cap6, tv6, os6, rfl, hN⟩ := outN (c' := kB i) hO HF.out.2.2.2.2.1; have N6 := Lib.hid hN; clear hO hN))
                  have HC := Lib.hid (handle_any (vA i true) none 0 0 zr 2 (46 * (i : Int)) 0 (i64s (by omega)) (i64s (by omega)) N6.out.cat.toCL OKB.out (VO.out true) rfl (eat_nil rfl))
                  go_upto_region 31 with (go_at_call 17; refine HC.out.mono ?_; intro e w7 hO; obtain ⟨lv7, a7, cap7, tv7, os7, rfl, hN⟩ := outN (c' := kC i) hO HF.out.2.2.2.2.2.1; have N7 := Lib.hid hN; clear hO hN)
                  have HRC := Lib.hid (role_any N7.out.cat.toCL)
                  rw [HF.out.2.2.2.2.2.2.1] at HRC
                  have HHC := Lib.hid ((hard_any N7.out.cat.toCL OKC.out.log).mono (fun e w' h => hardN h HF.out.2.2.2.2.2.2.2.1))
                  go_wp2_with (first
                    | (go_at_call 13; refine HRC.out.mono ?_; rintro e w8 ⟨rfl, rfl⟩)
                    | (go_at_call 12; refine HHC.out.mono ?_; rintro e w8 ⟨ah3, ch3, rfl, hb⟩; have B8 := Lib.hid hb; clear hb))
                  go_roundg 1
                  case measure => have := ht9'.out; omega
                  case rel =>
                    have b5 := BW4.out.trans B5.out
                    have b6 := b5.trans (N6.out.below C5.out.toCL b5.size)
                    have b7 := b6.trans (N7.out.below N6.out.cat.toCL b6.size)
                    exact ⟨t + 1, lv7, _, tv7, kC i, by have := ht9'.out; omega, by simp, N7.out.cat.toCL.below B8.out, ⟨by unfold stE; rw [if_neg (by omega)], HF.out.2.2.2.2.2.2.2.2.2.2, OKC.out⟩, b7.trans (B8.out.mono b7.size)⟩
                · have htb : ((t : Int) == 0) = false := by simp; omega
                  have ht9' := Lib.hid ht9
                  clear ht9
                  go_wp2
                  go_roundg 0
                  case measure => have := ht9'.out; omega
                  case rel => exact ⟨t + 1, lv4, ov4, tv4, d, by have := ht9'.out; omega, by simp, C4.out, by have h5 := A4.out; unfold stE at h5 ⊢; rw [if_neg ht9'.out] at h5; rw [if_neg (by omega)]; exact h5, BW4.out⟩
        · have htg : 2 ≤ (t : Int) := by omega
          go_wp2_with (go_at_call 10; refine (works_any _).mono ?_; rintro e w5 ⟨rfl, hb5⟩; have B5 := Lib.hid hb5; clear hb5)
          go_ret
          exact retB rfl (BW3.out.trans (B5.out.mono BW3.out.size))
end Go.Proofs.Ytcleaamjfjnkkaa
