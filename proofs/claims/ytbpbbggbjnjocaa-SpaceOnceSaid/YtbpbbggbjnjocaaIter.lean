/- The two iterators. -/
import Derived.Test.YtbpbbggbjnjocaaBase
import Derived.RangeFuncNested
import Derived.RangeFuncBound
import Derived.RangeFuncCalls
import Derived.RangeFuncLeaves
import Derived.Shelf.Abstract
import Derived.OwnWalkIn
import Derived.TacticsInMore
import Derived.LoopNIn
import Derived.LoopIn
import Derived.Test.YtbpbbggbjnjocaaProg
namespace Go.Proofs.Ytbpbbggbjnjocaa
open Go.RowKit Go.Shelf
attribute [local go_sem] Oper.semAt_some

/-! ### Plain -/
def nz (xs : List Int) : List Int := xs.filter (fun x => decide (x ≠ 0))
def places (ls : List (List Int)) : List Int := nz ls.flatten
theorem nz_append (a b : List Int) : nz (a ++ b) = nz a ++ nz b := by simp [nz]
theorem nz_yes {xs : List Int} {j : Nat} (h : j < xs.length) (hx : xs.getD j 0 ≠ 0) : nz (xs.take (j + 1)) = nz (xs.take j) ++ [xs.getD j 0] := by
  rw [take_snoc xs j 0 h, nz_append]
  congr 1
  rw [nz, List.filter_cons, if_pos (by simpa using hx)]
  simp
theorem nz_no {xs : List Int} {j : Nat} (h : j < xs.length) (hx : xs.getD j 0 = 0) : nz (xs.take (j + 1)) = nz (xs.take j) := by
  rw [take_snoc xs j 0 h, nz_append, hx]
  simp [nz]
theorem places_step {ls : List (List Int)} {k : Nat} (h : k < ls.length) : places (ls.take (k + 1)) = places (ls.take k) ++ nz (ls.getD k []) := by
  rw [take_snoc ls k [] h, places, places, List.flatten_append, nz_append]
  simp
theorem places_pre {ls : List (List Int)} {k : Nat} (h : k < ls.length) (j : Nat) : places (ls.take k) ++ nz ((ls.getD k []).take j) <+: places ls := by
  refine ⟨nz ((ls.getD k []).drop j) ++ places (ls.drop (k + 1)), ?_⟩
  have e : ls = ls.take k ++ (ls.getD k [] :: ls.drop (k + 1)) := by
    conv => lhs; rw [← List.take_append_drop k ls]
    rw [List.drop_eq_getElem_cons h]
    simp [h]
  conv => rhs; rw [e, places, List.flatten_append, List.flatten_cons, nz_append, nz_append, ← List.take_append_drop j (ls.getD k []), nz_append]
  simp [places]

/-- images in memory: a slice of slices of numbers. -/
def Imgs (w : World) (a : Option Addr) (ls : List (List Int)) : Prop :=
  ∀ i, i < ls.length → ∃ b off a' cap, a = some ⟨b, off, none⟩ ∧ w.cell? ⟨b, off + i, none⟩ = some (.slice a' (ls.getD i []).length cap) ∧ Row w a' (ls.getD i [])
theorem imgs_below {w w' : World} {a : Option Addr} {ls : List (List Int)} (h : Imgs w a ls) (hb : Below w.heap.size w w') : Imgs w' a ls := by
  intro i hi
  obtain ⟨b, off, a', cap, e, hc, hr⟩ := h i hi
  exact ⟨b, off, a', cap, e, (hb.cell (World.block_lt_of_cell? _ _ hc)).trans hc, row_below hr hb⟩

set_option maxHeartbeats 2000000 in
theorem places1_in (F : Fence) (n : Nat) (h18 : F.fn 18) (hro : F.round = none) (hn : 1 ≤ n) (l B0 : Nat) (w : World) (a : Option Addr) (cap : Nat) (ls : List (List Int)) (him : Imgs w a ls)
    (hlen : ls.length ≤ maxLen) (hls : ∀ i, (ls.getD i []).length ≤ maxLen) (J Jx : List Int → World → Prop)
    (hY : ∀ pre x W, J pre W → pre.length < (places ls).length → YieldAt F (n - 1) Try.prog l #[.int .i64 x] W fun e W' =>
      (e = .returned (.bool true) ∧ J (pre ++ [x]) W' ∧ Below w.heap.size W W') ∨ (e = .returned (.bool false) ∧ Jx (pre ++ [x]) W'))
    (W : World) (hW : Below w.heap.size w W) (hB : W.cell? ⟨B0, 0, none⟩ = some (.slice a ls.length cap)) (h0 : J [] W) :
    CallsIn F n Try.prog 18 #[.func (.yield l) #[] #[], .pointer (some ⟨B0, 0, none⟩)] W fun e W' => (∃ v, e = .returned v) ∧
      ((∃ ys, ys = places ls ∧ J ys W') ∨ (∃ pre, pre <+: places ls ∧ Jx pre W')) := by
  unfold maxLen at hlen hls
  refine callsIn_of_wp Try.func18 rfl h18 ?_ hro
  simp only [Try.ntmps18, List.size_toArray, List.length_cons, List.length_nil, Nat.reduceAdd, Nat.reduceSub, Array.replicate_succ, Array.replicate_zero, List.push_toArray, List.append_toArray, List.nil_append, List.cons_append]
  gi_wp2
  gi_loopw [9] (fun i wr => ∃ k : Nat, k ≤ ls.length ∧ i = .int .i64 k ∧ J (places (ls.take k)) wr ∧ Below w.heap.size w wr)
    (fun i _ => ls.length - (intOf i).toNat)
  case atStart => exact ⟨0, Nat.zero_le _, rfl, h0, hW⟩
  case round =>
    obtain ⟨k, hk, rfl, hJs, hnx⟩ := hrel
    by_cases hlt : k < ls.length
    · obtain ⟨b, off, a', cap', rfl, hc, hr⟩ := him k hlt
      replace hc := (hnx.cell (p := ⟨b, off + k, none⟩) (World.block_lt_of_cell? _ _ hc)).trans hc
      obtain ⟨x, hx⟩ : ∃ x, x = ls.getD k [] := ⟨_, rfl⟩
      have hxl := hls k
      rw [← hx] at hc hr hxl
      have hst : Hid (places (ls.take (k + 1)) = places (ls.take k) ++ nz x) := by rw [hx]; exact places_step hlt
      have hpp : Hid (∀ j, places (ls.take k) ++ nz (x.take j) <+: places ls) := by rw [hx]; exact fun j => places_pre hlt j
      clear hx
      have HR := Lib.hid hr
      clear hr
      gi_wp2
      gi_loopw [15] (fun i wr => ∃ j : Nat, j ≤ x.length ∧ i = .int .i64 j ∧ J (places (ls.take k) ++ nz (x.take j)) wr ∧ Below w.heap.size w wr)
        (fun i _ => x.length - (intOf i).toNat)
      case atStart => exact ⟨0, Nat.zero_le _, rfl, by simpa [nz] using hJs, hnx⟩
      case round =>
        obtain ⟨j, hj, rfl, hJj, hnj⟩ := hrel
        have hrj := row_below (HR.out : Row w a' x) hnj
        by_cases hlj : j < x.length
        · obtain ⟨b1, off1, rfl, hc1⟩ := hrj j hlj
          by_cases hz : x.getD j 0 = 0
          · have hs := Lib.hid (nz_no hlj hz)
            rw [hz] at hc1
            gi_wp2
            refine ⟨fun _ h => (by cases h), ?_⟩
            gi_wp2
            go_roundw
            case rel => exact ⟨j + 1, by omega, by simp, by rw [hs.out]; exact hJj, hnj⟩
            case measure => simp [intOf]; omega
          · have hs := Lib.hid (nz_yes hlj hz)
            have hp := hpp.out (j + 1)
            rw [hs.out, ← List.append_assoc] at hp
            have hpl : (places (ls.take k) ++ nz (x.take j)).length < (places ls).length := by have := hp.length_le; simp only [List.length_append, List.length_singleton] at this ⊢; omega
            obtain ⟨fn, tmps, assign, body, hy, hR⟩ := hY _ (x.getD j 0) wr hJj hpl
            have HP := Lib.hid hp
            clear hp hpl
            generalize x.getD j 0 = z at hz hc1 hs HP hy hR
            have hne : (z == 0) = false := by simpa using hz
            gi_wp2
            refine hR.mono ?_
            rintro e W3 (⟨rfl, hJ3, hk3⟩ | ⟨rfl, hJx3⟩)
            · gi_wp2
              go_roundw
              case rel => exact ⟨j + 1, by omega, by simp, by rw [hs.out, ← List.append_assoc]; exact hJ3, hnj.trans hk3⟩
              case measure => simp [intOf]; omega
            · gi_wp2
              refine bodyPost_ret (results_none rfl _ _ _) rfl ?_
              exact ⟨⟨_, rfl⟩, .inr ⟨_, HP.out, hJx3⟩⟩
        · obtain rfl : j = x.length := by omega
          gi_wp2
          go_roundw
          case rel => exact ⟨k + 1, by omega, by simp, by rw [hst.out]; simpa using hJj, hnj⟩
          case measure => simp [intOf]; omega
    · obtain rfl : k = ls.length := by omega
      gi_wp2
      go_end0
      exact ⟨⟨_, rfl⟩, .inl ⟨_, by rw [List.take_length], hJs⟩⟩

/-! ### The sectors that nobody holds -/
/-- of those from 193 on below m. -/
def freesTo (cs : List Int) (m : Nat) : List Int := ((List.range m).filter (fun i => decide (193 ≤ i) && decide (cs.getD i 0 = 0))).map (fun (i : Nat) => (i : Int))
def frees (cs : List Int) : List Int := freesTo cs cs.length
theorem freesTo_start (cs : List Int) : freesTo cs 193 = [] := by
  rw [freesTo, List.filter_eq_nil_iff.2]
  · rfl
  · intro i hi; simp at hi ⊢; omega
theorem freesTo_short {cs : List Int} (h : cs.length ≤ 193) : frees cs = [] := by
  rw [frees, freesTo, List.filter_eq_nil_iff.2]
  · rfl
  · intro i hi; simp at hi ⊢; omega
theorem freesTo_yes {cs : List Int} {m : Nat} (hm : 193 ≤ m) (h : cs.getD m 0 = 0) : freesTo cs (m + 1) = freesTo cs m ++ [(m : Int)] := by
  rw [freesTo, List.range_succ, List.filter_append, List.map_append, List.filter_cons, if_pos (by simp [hm]; simpa using h)]
  rfl
theorem freesTo_no {cs : List Int} {m : Nat} (h : cs.getD m 0 ≠ 0) : freesTo cs (m + 1) = freesTo cs m := by
  rw [freesTo, List.range_succ, List.filter_append, List.map_append, List.filter_cons, if_neg (by simp; intro _; simpa using h)]
  simp [freesTo]
theorem freesTo_pre (cs : List Int) {m n : Nat} (h : m ≤ n) : freesTo cs m <+: freesTo cs n := by
  induction n with
  | zero => obtain rfl : m = 0 := by omega
            exact List.prefix_refl _
  | succ n ih =>
    by_cases c : m = n + 1
    · subst c; exact List.prefix_refl _
    · refine (ih (by omega)).trans ?_
      rw [freesTo, freesTo, List.range_succ, List.filter_append, List.map_append]
      exact List.prefix_append _ _
theorem freesTo_len (cs : List Int) (m : Nat) : (freesTo cs m).length ≤ m := by
  rw [freesTo, List.length_map]; exact Nat.le_trans (List.length_filter_le _ _) (by simp)

/-- what a round leaves as it was: what lay below, and the iterator's own box. -/
def Kept (n₀ B0 : Nat) (W W' : World) : Prop := Below n₀ W W' ∧ ∀ sv, Boxed W B0 23 sv → Boxed W' B0 23 sv
theorem Kept.trans {n₀ B0 : Nat} {A B C : World} (h : Kept n₀ B0 A B) (k : Kept n₀ B0 B C) : Kept n₀ B0 A C := ⟨h.1.trans k.1, fun sv hs => k.2 sv (h.2 sv hs)⟩
theorem Kept.refl (n₀ B0 : Nat) (A : World) : Kept n₀ B0 A A := ⟨Below.refl _ _, fun _ h => h⟩
theorem Kept.put {n₀ B0 : Nat} {w : World} (hn : n₀ ≤ w.heap.size) (hB : B0 < w.heap.size) (W : World) (l : Nat) (o o' : Obj) (hl : w.heap.size ≤ l) (h : W.heap[l]? = some o) (h1 : o.isCells = false) (h2 : o.isWalk = false) : Kept n₀ B0 W (W.putObj l o') :=
  ⟨belowK_b hn W l o o' hl h h1 h2, fun sv hs => (World.putObj_heap_other (by omega)).trans hs⟩

set_option maxHeartbeats 2000000 in
theorem free1_in (F : Fence) (n : Nat) (h19 : F.fn 19) (hro : F.round = none) (hn : 1 ≤ n) (l B0 : Nat) (w : World) (a : Option Addr) (cap : Nat) (cs : List Int) (hrow : Row w a cs)
    (hlen : cs.length ≤ maxLen) (J Jx : List Int → World → Prop)
    (hY : ∀ pre x W, J pre W → pre.length < (frees cs).length → YieldAt F (n - 1) Try.prog l #[.int .i64 x] W fun e W' =>
      (e = .returned (.bool true) ∧ J (pre ++ [x]) W' ∧ Kept w.heap.size B0 W W') ∨ (e = .returned (.bool false) ∧ Jx (pre ++ [x]) W'))
    (W : World) (hW : Below w.heap.size w W) (hB : Boxed W B0 23 (.slice a cs.length cap)) (h0 : J [] W) :
    CallsIn F n Try.prog 19 #[.func (.yield l) #[] #[], .pointer (some ⟨B0, 0, none⟩)] W fun e W' => (∃ v, e = .returned v) ∧
      ((∃ ys, ys = frees cs ∧ J ys W') ∨ (∃ pre, pre <+: frees cs ∧ Jx pre W')) := by
  unfold maxLen at hlen
  refine callsIn_of_wp Try.func19 rfl h19 ?_ hro
  simp only [Try.ntmps19, List.size_toArray, List.length_cons, List.length_nil, Nat.reduceAdd, Nat.reduceSub, Array.replicate_succ, Array.replicate_zero, List.push_toArray, List.append_toArray, List.nil_append, List.cons_append]
  gi_wp2
  gi_loopw [3] (fun i wr => ∃ k : Nat, 193 ≤ k ∧ (k = 193 ∨ k ≤ cs.length) ∧ i = .int .i64 k ∧ J (freesTo cs k) wr ∧ Below w.heap.size w wr ∧ Boxed wr B0 23 (.slice a cs.length cap))
    (fun i _ => cs.length - (intOf i).toNat)
  case atStart => exact ⟨193, Nat.le_refl _, .inl rfl, rfl, by rw [freesTo_start]; exact h0, hW, hB⟩
  case round =>
    obtain ⟨k, hk, hk2, rfl, hJs, hnx, hbx⟩ := hrel
    have hbc := hbx.cell
    have hk3 : (193 : Int) ≤ (k : Int) := by omega
    by_cases hlt : k < cs.length
    · obtain ⟨b, off, rfl, hc⟩ := row_below hrow hnx k hlt
      by_cases hz : cs.getD k 0 = 0
      · have hs := Lib.hid (freesTo_yes hk hz)
        rw [hz] at hc
        have hp := freesTo_pre cs (show k + 1 ≤ cs.length by omega)
        rw [hs.out] at hp
        have hpl : (freesTo cs k).length < (frees cs).length := by have := hp.length_le; simp only [List.length_append, List.length_singleton, frees] at this ⊢; omega
        obtain ⟨fn, tmps, assign, body, hy, hR⟩ := hY _ (k : Int) wr hJs hpl
        have HP : Hid (freesTo cs k ++ [(k : Int)] <+: frees cs) := hp
        clear hp hpl hz
        gi_wp2
        refine hR.mono ?_
        rintro e W3 (⟨rfl, hJ3, hk3⟩ | ⟨rfl, hJx3⟩)
        · gi_wp2
          go_roundw
          case rel => exact ⟨k + 1, by omega, by omega, by simp, by rw [hs.out]; exact hJ3, hnx.trans hk3.1, hk3.2 _ hbx⟩
          case measure => simp [intOf]; omega
        · gi_wp2
          refine bodyPost_ret (results_none rfl _ _ _) rfl ?_
          exact ⟨⟨_, rfl⟩, .inr ⟨_, HP.out, hJx3⟩⟩
      · have hs := Lib.hid (freesTo_no hz)
        generalize cs.getD k 0 = z at hz hc
        have hne : (z == 0) = false := by simpa using hz
        gi_wp2
        refine ⟨fun _ h => (by cases h), ?_⟩
        gi_wp2
        go_roundw
        case rel => exact ⟨k + 1, by omega, by omega, by simp, by rw [hs.out]; exact hJs, hnx, hbx⟩
        case measure => simp [intOf]; omega
    · have hs : freesTo cs k = frees cs := by
        rcases hk2 with rfl | h
        · rw [freesTo_start, freesTo_short (by omega)]
        · rw [show k = cs.length by omega]; rfl
      have HS := Lib.hid hs
      clear hs
      gi_wp2
      go_end0
      exact ⟨⟨_, rfl⟩, .inl ⟨_, HS.out, hJs⟩⟩

/-- the makers. -/
theorem places_in (F : Fence) (n : Nat) (h16 : F.fn 16) (hro : F.round = none) (a : Option Addr) (len cap : Nat) (w : World) :
    CallsIn F n Try.prog 16 #[.slice a len cap] w fun e w' => e = .returned (.func (.func 18) #[] #[.pointer (some ⟨w.heap.size, 0, none⟩)]) ∧ w' = w.alloc (.cells #[.slice a len cap] 22) := by
  refine callsIn_of_wp Try.func16 rfl h16 ?_ hro
  simp only [Try.ntmps16, List.size_toArray, List.length_cons, List.length_nil, Nat.reduceAdd, Nat.reduceSub, Array.replicate_succ, Array.replicate_zero, List.push_toArray, List.append_toArray, List.nil_append, List.cons_append]
  gi_wp2
  go_ret
  exact ⟨rfl, rfl⟩
theorem free_in (F : Fence) (n : Nat) (h17 : F.fn 17) (hro : F.round = none) (a : Option Addr) (len cap : Nat) (w : World) :
    CallsIn F n Try.prog 17 #[.slice a len cap] w fun e w' => e = .returned (.func (.func 19) #[] #[.pointer (some ⟨w.heap.size, 0, none⟩)]) ∧ w' = w.alloc (.cells #[.slice a len cap] 23) := by
  refine callsIn_of_wp Try.func17 rfl h17 ?_ hro
  simp only [Try.ntmps17, List.size_toArray, List.length_cons, List.length_nil, Nat.reduceAdd, Nat.reduceSub, Array.replicate_succ, Array.replicate_zero, List.push_toArray, List.append_toArray, List.nil_append, List.cons_append]
  gi_wp2
  go_ret
  exact ⟨rfl, rfl⟩

theorem places_stops (F : Fence) (n : Nat) (h18 : F.fn 18) (hro : F.round = none) (hn : 1 ≤ n) (B0 : Nat) (w0 : World) (a : Option Addr) (cap : Nat) (ls : List (List Int)) (him : Imgs w0 a ls)
    (hlen : ls.length ≤ maxLen) (hls : ∀ i, (ls.getD i []).length ≤ maxLen) (w : World) (hw : Below w0.heap.size w0 w) (hBl : B0 < w.heap.size) (hB : w.cell? ⟨B0, 0, none⟩ = some (.slice a ls.length cap)) :
    SeqStopsK F n Try.prog 18 #[.pointer (some ⟨B0, 0, none⟩)] (fun x : Int => #[Value.int .i64 x]) (Below w0.heap.size) (fun ys => ys = places ls) (fun pre => pre <+: places ls) (places ls).length w := fun l J Jx W hW _ _ hY h0 =>
  places1_in F n h18 hro hn l B0 w0 a cap ls him hlen hls J Jx hY W (hw.trans (hW.mono hw.size)) ((hW.cell (p := ⟨B0, 0, none⟩) hBl).trans hB) h0
theorem free_stops (F : Fence) (n : Nat) (h19 : F.fn 19) (hro : F.round = none) (hn : 1 ≤ n) (B0 : Nat) (w0 : World) (a : Option Addr) (cap : Nat) (cs : List Int) (hrow : Row w0 a cs)
    (hlen : cs.length ≤ maxLen) (w : World) (hw : Below w0.heap.size w0 w) (hB : Boxed w B0 23 (.slice a cs.length cap)) :
    SeqStopsK F n Try.prog 19 #[.pointer (some ⟨B0, 0, none⟩)] (fun x : Int => #[Value.int .i64 x]) (Kept w0.heap.size B0) (fun ys => ys = frees cs) (fun pre => pre <+: frees cs) (frees cs).length w := fun l J Jx W hW _ _ hY h0 =>
  free1_in F n h19 hro hn l B0 w0 a cap cs hrow hlen J Jx hY W (hw.trans (hW.mono hw.size)) ((hW.block B0 hB.lt).trans hB) h0
end Go.Proofs.Ytbpbbggbjnjocaa
