/- The document's answers. -/
import Derived.Test.YtbpbbggbjnjocaaCounts
namespace Go.Proofs.Ytbpbbggbjnjocaa
open Go.RowKit Go.Joins

theorem frees_take {cs : List Int} {i : Nat} (h : i ≤ cs.length) : freesTo cs i = (frees cs).take (freesTo cs i).length := by
  obtain ⟨t, ht⟩ := freesTo_pre cs h
  rw [frees, ← ht]; simp

set_option maxHeartbeats 1000000 in
theorem rfree_any (a : Option Addr) (cap : Nat) (cs : List Int) (w : World) (hrow : Row w a cs) (hlen : cs.length ≤ maxLen) :
    Calls Try.prog 15 #[.slice a cs.length cap] w (SameI (frees cs).length w) := by
  unfold maxLen at hlen
  go_enter Try.func15, Try.ntmps15
  go_wp2
  go_loopg [3, 4] (max 193 cs.length - 193) (fun k v3 v4 wr => ∃ i : Nat, 193 ≤ i ∧ (i = 193 ∨ i ≤ cs.length) ∧ i + k = max 193 cs.length ∧ v3 = .int .i64 ((freesTo cs i).length : Int) ∧ v4 = .int .i64 (i : Int) ∧ wr = w)
  case atStart => exact ⟨193, Nat.le_refl _, .inl rfl, by omega, by rw [freesTo_start]; rfl, rfl, rfl⟩
  case round =>
    obtain ⟨i, hi, hi2, hik, rfl, rfl, rfl⟩ := hrel
    have hfl := freesTo_len cs i
    by_cases hlt : i < cs.length
    · obtain ⟨b, off, rfl, hc⟩ := hrow i hlt
      by_cases hz : cs.getD i 0 = 0
      · have hs := Lib.hid (freesTo_yes hi hz)
        rw [hz] at hc
        clear hz
        go_wp2
        go_roundg (gk - 1)
        case measure => omega
        case rel => exact ⟨i + 1, by omega, by omega, by omega, by rw [hs.out]; simp, by simp, rfl⟩
      · have hs := Lib.hid (freesTo_no hz)
        generalize cs.getD i 0 = z at hz hc
        have hne : (z == 0) = false := by simpa using hz
        go_wp2
        go_roundg (gk - 1)
        case measure => omega
        case rel => exact ⟨i + 1, by omega, by omega, by omega, by rw [hs.out], by simp, rfl⟩
    · have hs : freesTo cs i = frees cs := by
        rcases hi2 with rfl | h
        · rw [freesTo_start, freesTo_short (by omega)]
        · rw [show i = cs.length by omega]; rfl
      have HS := Lib.hid hs
      clear hs
      go_wp2
      go_ret
      exact sameI (by rw [HS.out])

theorem ints_any (xs ys : List Int) (ax ay : Option Addr) (cx cy : Nat) (w : World) (hx : Row w ax xs) (hy : Row w ay ys) (hlx : xs.length ≤ maxLen) :
    Calls Try.prog 10 #[.slice ax xs.length cx, .slice ay ys.length cy] w (QuietB (decide (xs = ys)) w) := by
  unfold maxLen at hlx
  by_cases hl : xs.length = ys.length
  · have hb : ((xs.length : Int) == (ys.length : Int)) = true := by simp [hl]
    rw [← hl]
    rw [← hl] at hb
    have HL := Lib.hid hl
    clear hl
    go_enter Try.func10, Try.ntmps10
    go_wp2
    go_loopg [5] xs.length (fun k v5 wr => ∃ i : Nat, i + k = xs.length ∧ v5 = .int .i64 (i : Int) ∧ xs.take i = ys.take i ∧ ∃ q, wr = w.drewN q)
    case atStart => exact ⟨0, by omega, rfl, rfl, 0, rfl⟩
    case round =>
      obtain ⟨i, hik, rfl, heq, q, hq⟩ := hrel
      have HQ := Lib.hid hq
      clear hq
      have HE := Lib.hid heq
      clear heq
      by_cases hlt : i < xs.length
      · obtain ⟨b, off, rfl, hc⟩ := hx i hlt
        obtain ⟨b', off', rfl, hc'⟩ := hy i (by have := HL.out; omega)
        replace hc : wr.cell? ⟨b, off + i, none⟩ = some (.int .i64 (xs.getD i 0)) := by rw [HQ.out]; exact hc
        replace hc' : wr.cell? ⟨b', off' + i, none⟩ = some (.int .i64 (ys.getD i 0)) := by rw [HQ.out]; exact hc'
        by_cases hz : xs.getD i 0 = ys.getD i 0
        · have hs : Hid (xs.take (i + 1) = ys.take (i + 1)) := by
            have h2 : i < ys.length := by have := HL.out; omega
            rw [Hid, take_snoc xs i 0 hlt, take_snoc ys i 0 h2, HE.out, hz]
          rw [← hz] at hc'
          clear hz
          generalize xs.getD i 0 = z at hc hc'
          go_wp2
          go_quiet (fail)
          go_wp2
          go_roundg (gk - 1)
          case measure => omega
          case rel => exact ⟨i + 1, by omega, by simp, hs.out, q + nq, by rw [HQ.out]; simp [World.drewN, Nat.add_assoc]⟩
        · have hs : Hid (false = decide (xs = ys)) := by
            have : xs ≠ ys := fun e => hz (by rw [e])
            simp [Hid, this]
          generalize xs.getD i 0 = z at hc hz
          generalize ys.getD i 0 = z' at hc' hz
          have hne : (z == z') = false := by simpa using hz
          go_wp2
          go_quiet (fail)
          go_wp2
          go_ret
          exact quietB hs.out ⟨q + nq, by rw [HQ.out]; simp [World.drewN, Nat.add_assoc]⟩
      · have hs : Hid (true = decide (xs = ys)) := by
          have e := HE.out
          rw [List.take_of_length_le (by omega), List.take_of_length_le (by have := HL.out; omega)] at e
          simp [Hid, e]
        go_wp2
        go_ret
        exact quietB hs.out ⟨q, HQ.out⟩
  · have hs : Hid (false = decide (xs = ys)) := by
      have : xs ≠ ys := fun e => hl (by rw [e])
      simp [Hid, this]
    have hb : ((xs.length : Int) == (ys.length : Int)) = false := by simp; omega
    go_enter Try.func10, Try.ntmps10
    go_wp2
    go_ret
    exact quietB hs.out ⟨0, rfl⟩

set_option maxHeartbeats 2000000 in
theorem rtake_any (a : Option Addr) (cap : Nat) (cs : List Int) (n : Int) (w : World) (hrow : Row w a cs) (hlen : cs.length ≤ maxLen) (hbytes : cs.length * 8 ≤ 140737488355328) :
    Calls Try.prog 13 #[.slice a cs.length cap, .int .i64 n] w (LPost (takes cs n) (takesE cs n) w) := by
  obtain ⟨i0, hi0, hz0, hz1, hz2⟩ := info_parts info3
  by_cases hn : n < 0
  · have hT : Hid (takes cs n = [] ∧ takesE cs n = 2) := ⟨if_pos hn, if_pos hn⟩
    go_enter Try.func13, Try.ntmps13
    go_wp2
    refine bodyPost_ret (results_tmp2 rfl _ _ _) rfl ?_
    rw [hT.out.1, hT.out.2]
    exact ⟨_, rfl, World.ownsRow_nil _ _ _ _, Below.refl _ _⟩
  by_cases hf : ((frees cs).length : Int) < n
  · have hT : Hid (takes cs n = [] ∧ takesE cs n = 7) := ⟨(if_neg hn).trans (if_pos hf), (if_neg hn).trans (if_pos hf)⟩
    go_enter Try.func13, Try.ntmps13
    go_wp2_with (go_at_call 15; refine (rfree_any a cap cs _ hrow hlen).mono ?_; rintro e w1 ⟨rfl, rfl⟩)
    refine bodyPost_ret (results_tmp2 rfl _ _ _) rfl ?_
    rw [hT.out.1, hT.out.2]
    exact ⟨_, rfl, World.ownsRow_nil _ _ _ _, Below.refl _ _⟩
  have hT : Hid (takes cs n = (frees cs).take n.toNat ∧ takesE cs n = 0) := ⟨(if_neg hn).trans (if_neg hf), (if_neg hn).trans (if_neg hf)⟩
  go_enter Try.func13, Try.ntmps13
  go_wp2_with (go_at_call 15; refine (rfree_any a cap cs _ hrow hlen).mono ?_; rintro e w1 ⟨rfl, rfl⟩)
  unfold maxLen at hlen
  go_loopg [6, 7] (max 193 cs.length - 193) (fun k v6 v7 wr => ∃ i : Nat, 193 ≤ i ∧ (i = 193 ∨ i ≤ cs.length) ∧ i + k = max 193 cs.length ∧ wr.ownsRow w.heap.size 3 1 v6 (freesTo cs i).length ((freesTo cs i).map (Value.int .i64)) ∧ v7 = .int .i64 (i : Int) ∧ ((freesTo cs i).length : Int) ≤ n ∧ Below w.heap.size w wr)
  case atStart => exact ⟨193, Nat.le_refl _, .inl rfl, by omega, by rw [freesTo_start]; exact World.ownsRow_nil _ _ _ _, rfl, by rw [freesTo_start]; simp; omega, Below.refl _ _⟩
  case round =>
    obtain ⟨i, hi, hi2, hik, hown, rfl, hle, hB⟩ := hrel
    have hfl := freesTo_len cs i
    obtain ⟨va, vc, rfl, -⟩ := own_row hown
    by_cases hlt : i < cs.length
    · by_cases hful : ((freesTo cs i).length : Int) < n
      · obtain ⟨b, off, rfl, hc⟩ := row_below hrow hB i hlt
        by_cases hz : cs.getD i 0 = 0
        · have hs := Lib.hid (freesTo_yes hi hz)
          rw [hz] at hc
          clear hz
          have hsW := hB.size
          go_wp2_with (at_builtin; refine wpList_append_own _ rfl _ _ 23 rfl w.heap.size 3 i0 (.int .i64 0) 1 8 Try.underlying23 hi0 hz0 hz1 hz2 rfl (by decide) _ _ _ rfl (hown.alloc _) ⟨wr.heap.size, 0, none⟩ 1 1 [.int .i64 (i : Int)] rfl rfl (cell_one_new _ _ _) (by simp [Value.oneCell']) (by unfold maxLen; omega) (by omega) (by simp; omega) ?_; intro v' w2 hown' hgrow _)
          go_roundg (gk - 1)
          case measure => omega
          case rel =>
            have hbn : Below w.heap.size w w2 := (hB.alloc hB.size _).grown hgrow (by simp; omega) (fun j hj => (hown.lt j hj).1)
            exact ⟨i + 1, by omega, by omega, by omega, by rw [hs.out]; simpa using hown', by simp, by rw [hs.out]; simp; omega, hbn⟩
        · have hs := Lib.hid (freesTo_no hz)
          generalize cs.getD i 0 = z at hz hc
          have hne : (z == 0) = false := by simpa using hz
          go_wp2
          go_roundg (gk - 1)
          case measure => omega
          case rel => exact ⟨i + 1, by omega, by omega, by omega, by rw [hs.out]; exact hown, by simp, by rw [hs.out]; exact hle, hB⟩
      · have hs := frees_take (cs := cs) (i := i) (by omega)
        rw [show (freesTo cs i).length = n.toNat by omega] at hs
        have HS := Lib.hid hs
        clear hs
        go_wp2
        refine bodyPost_ret (results_tmp2 rfl _ _ _) rfl ?_
        rw [hT.out.1, hT.out.2, ← HS.out]
        exact ⟨_, rfl, hown, hB⟩
    · have hs : freesTo cs i = frees cs := by
        rcases hi2 with rfl | h
        · rw [freesTo_start, freesTo_short (by omega)]
        · rw [show i = cs.length by omega]; rfl
      have HS : Hid ((frees cs).take n.toNat = freesTo cs i) := by rw [Hid, hs, List.take_of_length_le (by rw [hs] at hle; omega)]
      clear hs
      go_wp2
      refine bodyPost_ret (results_tmp2 rfl _ _ _) rfl ?_
      rw [hT.out.1, hT.out.2, HS.out]
      exact ⟨_, rfl, hown, hB⟩

theorem list_own {W : World} {b g m : Nat} {o : List Int} (h : W.heap[g]? = some (.cells (o.map (Value.int .i64)).toArray 3 (0, 0))) (hb : b ≤ g) (hl : o.length = m) (hm : m ≤ 1024) :
    W.ownsRow b 3 1 (.slice (some ⟨g, 0, none⟩) m m) o.length (o.map (Value.int .i64)) :=
  ⟨by simp, .inr ⟨_, m, _, by rw [hl], hb, h, by omega, by unfold maxLen; omega, by simp [hl], by simp only [Nat.mul_one]; exact List.take_of_length_le (by simp)⟩⟩

set_option maxHeartbeats 2000000 in
theorem rcounts_any (a : Option Addr) (cap : Nat) (ls : List (List Int)) (n : Int) (w : World) (him : Imgs w a ls) (hlen : ls.length ≤ maxLen) (hls : ∀ i, (ls.getD i []).length ≤ maxLen) :
    Calls Try.prog 9 #[.slice a ls.length cap, .int .i64 n] w (LPost (counts ls n) (countsE ls n) w) := by
  unfold maxLen at hlen hls
  by_cases hbad : n < 0 ∨ 1024 < n
  · have hT : Hid (counts ls n = [] ∧ countsE ls n = 2) := ⟨if_pos hbad, if_pos hbad⟩
    go_enter Try.func9, Try.ntmps9
    go_wp2
    all_goals
      refine bodyPost_ret (results_tmp2 rfl _ _ _) rfl ?_
      rw [hT.out.1, hT.out.2]
      exact ⟨_, rfl, World.ownsRow_nil _ _ _ _, Below.refl _ _⟩
  obtain ⟨m, rfl⟩ := Int.eq_ofNat_of_zero_le (show 0 ≤ n by omega)
  have hm : m ≤ 1024 := by omega
  have hm2 : (m : Int) ≤ 1024 := by omega
  have hmk := fun w => run_make_zeros w m hm
  have hnone : Hid (cnt m (places ls) = none → counts ls (m : Int) = [] ∧ countsE ls (m : Int) = 2) := fun e => ⟨by rw [counts, if_neg hbad, Int.toNat_natCast, e]; rfl, by rw [countsE, if_neg hbad, Int.toNat_natCast, e]; rfl⟩
  have hsome : Hid (∀ o, cnt m (places ls) = some o → counts ls (m : Int) = o ∧ countsE ls (m : Int) = 0) := fun o e => ⟨by rw [counts, if_neg hbad, Int.toNat_natCast, e]; rfl, by rw [countsE, if_neg hbad, Int.toNat_natCast, e]; rfl⟩
  clear hbad
  have HIM := Lib.hid him
  have HLS := Lib.hid hls
  clear him hls
  go_enter Try.func9, Try.ntmps9
  go_wp2
  go_loopg [7] ls.length (fun k v7 wr => ∃ i : Nat, i + k = ls.length ∧ v7 = .int .i64 (i : Int) ∧ Below w.heap.size w wr ∧ ∃ o, cnt m (places (ls.take i)) = some o ∧ wr.heap[w.heap.size]? = some (.cells (o.map (Value.int .i64)).toArray 3 (0, 0)))
  case atStart =>
    refine ⟨0, by omega, rfl, (Below.refl _ w).alloc (Nat.le_refl _) _, _, rfl, ?_⟩
    refine (World.alloc_heap_new w _).trans ?_
    simp
  case round =>
    obtain ⟨i, hik, rfl, hB, o, ho, hrow⟩ := hrel
    have HO := Lib.hid ho
    clear ho
    by_cases hlt : i < ls.length
    · obtain ⟨b, off, a', cap', rfl, hc, hr⟩ := HIM.out i hlt
      obtain ⟨x, hx⟩ : ∃ x, x = ls.getD i [] := ⟨_, rfl⟩
      have hxl := HLS.out i
      rw [← hx] at hc hr hxl
      have HC0 := Lib.hid hc
      replace hc := (hB.cell (p := ⟨b, off + i, none⟩) (World.block_lt_of_cell? _ _ hc)).trans hc
      have hst : Hid (places (ls.take (i + 1)) = places (ls.take i) ++ nz x) := by rw [hx]; exact places_step hlt
      have hpp : Hid (∀ j, places (ls.take i) ++ nz (x.take j) <+: places ls) := by rw [hx]; exact fun j => places_pre hlt j
      clear hx
      have HR := Lib.hid hr
      have HROW := Lib.hid hrow
      clear hr hrow
      go_wp2
      go_loopg [8] x.length (fun k v8 wr => ∃ j : Nat, j + k = x.length ∧ v8 = .int .i64 (j : Int) ∧ Below w.heap.size w wr ∧ ∃ o, cnt m (places (ls.take i) ++ nz (x.take j)) = some o ∧ wr.heap[w.heap.size]? = some (.cells (o.map (Value.int .i64)).toArray 3 (0, 0)))
      case atStart => exact ⟨0, by omega, rfl, hB, o, by simpa [nz] using HO.out, HROW.out⟩
      case round =>
        clear hc HROW HO
        obtain ⟨j, hjk, rfl, hB2, o2, ho2, hrow2⟩ := hrel
        have HROW2 := Lib.hid hrow2
        have hc := (hB2.cell (p := ⟨b, off + i, none⟩) (World.block_lt_of_cell? _ _ HC0.out)).trans HC0.out
        by_cases hlj : j < x.length
        · obtain ⟨b1, off1, rfl, hc1⟩ := row_below HR.out hB2 j hlj
          by_cases hz : x.getD j 0 = 0
          · have hs := Lib.hid (nz_no hlj hz)
            rw [hz] at hc1
            clear hz hrow2
            have HO2 := Lib.hid ho2
            clear ho2
            go_wp2
            go_roundg (gk - 1)
            case measure => omega
            case rel => exact ⟨j + 1, by omega, by simp, hB2, o2, by rw [hs.out]; exact HO2.out, HROW2.out⟩
          · have hs := Lib.hid (nz_yes hlj hz)
            have hp := hpp.out (j + 1)
            rw [hs.out, ← List.append_assoc] at hp
            have HP := Lib.hid hp
            clear hp
            have hol := cnt_len _ _ ho2
            generalize x.getD j 0 = z at hz hc1 hs HP
            have hne : (z == 0) = false := by simpa using hz
            have hst2 := cnt_snoc m (places (ls.take i) ++ nz (x.take j)) z
            rw [ho2, cstep] at hst2
            clear ho2
            by_cases hx : z < 193 ∨ (m : Int) ≤ z
            · rw [if_pos hx] at hst2
              have hT := Lib.hid (hnone.out (cnt_pre HP.out hst2))
              clear hst2 hrow2
              go_wp2
              all_goals
                refine bodyPost_ret (results_tmp2 rfl _ _ _) rfl ?_
                rw [hT.out.1, hT.out.2]
                exact ⟨_, rfl, World.ownsRow_nil _ _ _ _, hB2⟩
            · rw [if_neg hx] at hst2
              have HST2 := Lib.hid hst2
              clear hst2
              obtain ⟨q, rfl⟩ := Int.eq_ofNat_of_zero_le (show 0 ≤ z by omega)
              have hq : (193 : Int) ≤ (q : Int) := by omega
              have hq2 : (q : Int) < (m : Int) := by omega
              have hq3 : q < o2.length := by omega
              have c3 := (cell_of_block hrow2 q).trans (by simp [hq3] : _ = some (Value.int .i64 (o2.getD q 0)))
              have f3 := unfrozen_of_block hrow2 q
              clear hrow2 hx
              go_wp2
              go_roundg (gk - 1)
              case measure => omega
              case rel =>
                refine ⟨j + 1, by omega, by simp, hB2.setCell (p := ⟨w.heap.size, q, none⟩) (Nat.le_refl _) _, bump o2 q, ?_, ?_⟩
                · rw [hs.out, ← List.append_assoc]; exact HST2.out
                · rw [block_setCell HROW2.out]
                  simp [bump, List.map_set]
        · have hs := ho2
          rw [show x.take j = x from List.take_of_length_le (by omega), ← hst.out] at hs
          have HS := Lib.hid hs
          clear hs ho2 hrow2
          go_wp2
          go_roundg (ls.length - (i + 1))
          case measure => omega
          case rel => exact ⟨i + 1, by omega, by simp, hB2, o2, HS.out, HROW2.out⟩
    · have hs := HO.out
      rw [List.take_of_length_le (by omega)] at hs
      have hT := Lib.hid (hsome.out _ hs)
      have hl := cnt_len _ _ hs
      have HROW := Lib.hid hrow
      clear hs hrow
      go_wp2
      refine bodyPost_ret (results_tmp2 rfl _ _ _) rfl ?_
      rw [hT.out.1, hT.out.2]
      exact ⟨_, rfl, list_own HROW.out (Nat.le_refl _) hl hm, hB⟩
end Go.Proofs.Ytbpbbggbjnjocaa
