/- The laws that hold the program to the document's answer; the closed rows. -/
import Derived.Test.YtbpbbggbjnjocaaRef
namespace Go.Proofs.Ytbpbbggbjnjocaa
open Go.RowKit Go.Joins

theorem counts_len (a : Option Addr) (cap len : Nat) (ls : List (List Int)) (hl : ls.length = len) (n : Int) (w : World) (him : Imgs w a ls) (hlen : ls.length ≤ maxLen) (hls : ∀ i, (ls.getD i []).length ≤ maxLen) :
    Calls Try.prog 8 #[.slice a len cap, .int .i64 n] w (LPost (counts ls n) (countsE ls n) w) := by subst hl; exact counts_any a cap ls n w him hlen hls
theorem take_len (a : Option Addr) (cap len : Nat) (cs : List Int) (hl : cs.length = len) (n : Int) (w : World) (hrow : Row w a cs) (hlen : cs.length ≤ maxLen) (hbytes : cs.length * 8 ≤ 140737488355328) :
    Calls Try.prog 12 #[.slice a len cap, .int .i64 n] w (LPost (takes cs n) (takesE cs n) w) := by subst hl; exact take_any a cap cs n w hrow hlen hbytes
theorem free_len (a : Option Addr) (cap len : Nat) (cs : List Int) (hl : cs.length = len) (w : World) (hrow : Row w a cs) (hlen : cs.length ≤ maxLen) :
    Calls Try.prog 14 #[.slice a len cap] w (RetI (frees cs).length w) := by subst hl; exact free_any a cap cs w hrow hlen

theorem imgs_lit (W : World) (t : TypeId) (vs : List Value) (ls : List (List Int)) (o : Nat) (ho : o = W.heap.size) (h : vs.length = ls.length)
    (hv : ∀ i, i < ls.length → ∃ a' cap, vs.getD i undef = .slice a' (ls.getD i []).length cap ∧ Row W a' (ls.getD i [])) : Imgs (W.alloc (.cells vs.toArray t)) (some ⟨o, 0, none⟩) ls := by
  intro i hi
  obtain ⟨a', cap, e, hr⟩ := hv i hi
  refine ⟨o, 0, a', cap, rfl, ?_, row_below hr ((Below.refl _ W).alloc (Nat.le_refl _) _)⟩
  subst ho
  rw [World.cell?_alloc_at _ _ _ _ rfl]
  rw [← e]
  simp [show i < vs.length by omega]

theorem row_alloc {w : World} {a : Option Addr} {xs : List Int} (h : Row w a xs) (o : Obj) : Row (w.alloc o) a xs := row_below h ((Below.refl _ w).alloc (Nat.le_refl _) o)
theorem imgs_wl (w : World) : Imgs (((w.alloc (.cells #[.int .i64 193, .int .i64 0, .int .i64 195] 3)).alloc (.cells #[.int .i64 193] 3)).alloc (.cells #[.slice (some ⟨w.heap.size, 0, none⟩) 3 3, .slice (some ⟨w.heap.size + 1, 0, none⟩) 1 1] 23))
    (some ⟨w.heap.size + 1 + 1, 0, none⟩) [[193, 0, 195], [193]] := by
  refine imgs_lit _ 23 [.slice (some ⟨w.heap.size, 0, none⟩) 3 3, .slice (some ⟨w.heap.size + 1, 0, none⟩) 1 1] _ _ (by simp) rfl fun i hi => ?_
  match i, hi with
  | 0, _ => exact ⟨_, 3, rfl, row_alloc (row_lit w 3 _ [193, 0, 195] rfl) _⟩
  | 1, _ => exact ⟨_, 1, rfl, row_lit _ 3 _ [193] (by simp)⟩

theorem wl_facts : (counts [[193, 0, 195], [193]] 197).length = 197 ∧ (counts [[193, 0, 195], [193]] 197).getD 193 0 = 2 ∧ (counts [[193, 0, 195], [193]] 197).getD 194 0 = 0 ∧ (counts [[193, 0, 195], [193]] 197).getD 195 0 = 1 ∧ (counts [[193, 0, 195], [193]] 197).getD 0 0 = 0 ∧
    countsE [[193, 0, 195], [193]] 197 = 0 ∧ takes (counts [[193, 0, 195], [193]] 197) 2 = [194, 196] ∧ takesE (counts [[193, 0, 195], [193]] 197) 2 = 0 ∧ takes (counts [[193, 0, 195], [193]] 197) 3 = [] ∧ takesE (counts [[193, 0, 195], [193]] 197) 3 = 7 ∧ (frees (counts [[193, 0, 195], [193]] 197)).length = 2 := by
  decide +kernel

theorem row_cell {w : World} {b o i : Nat} {xs : List Int} (h : Row w (some ⟨b, o, none⟩) xs) (hi : i < xs.length) : w.cell? ⟨b, o + i, none⟩ = some (.int .i64 (xs.getD i 0)) := by
  obtain ⟨b', o', e, hc⟩ := h i hi
  simp at e; obtain ⟨rfl, rfl⟩ := e; exact hc

set_option maxRecDepth 100000 in
set_option maxHeartbeats 2000000 in
theorem works_any (w : World) : Calls Try.prog 11 #[] w (RetB true w) := by
  have himg := Lib.hid (imgs_wl w)
  obtain ⟨f1, f2, f3, f4, f5, f6, f7, f8, f9, f10, f11⟩ := wl_facts
  have hc8 : Hid (∀ w1 : World, Imgs w1 (some ⟨w.heap.size + 1 + 1, 0, none⟩) [[193, 0, 195], [193]] → Calls Try.prog 8 #[.slice (some ⟨w.heap.size + 1 + 1, 0, none⟩) 2 2, .int .i64 197] w1 (LPost (counts [[193, 0, 195], [193]] 197) (countsE [[193, 0, 195], [193]] 197) w1)) := fun w1 hi => counts_len _ 2 2 _ rfl 197 w1 hi (by unfold maxLen; simp) (fun i => by
    match i with
    | 0 => unfold maxLen; simp
    | 1 => unfold maxLen; simp
    | _ + 2 => simp)
  rw [f6] at hc8
  generalize counts [[193, 0, 195], [193]] 197 = C at *
  have H1 := Lib.hid f1
  have H7 := Lib.hid f7
  have H8 := Lib.hid f8
  have H9 := Lib.hid f9
  have H10 := Lib.hid f10
  have H11 := Lib.hid f11
  go_enter Try.func11, Try.ntmps11
  have hC1 : C.length ≤ maxLen := by rw [f1]; unfold maxLen; omega
  have hC2 : C.length * 8 ≤ 140737488355328 := by rw [f1]; omega
  go_wp2_with (first
    | (go_at_call 8; refine (hc8.out _ himg.out).mono ?_; rintro e w1 ⟨v, rfl, hown, hb1⟩; rw [H1.out] at hown; obtain ⟨g, cp, rfl, -⟩ := own_slice hown (by omega); have hr := row_of_own hown; have c193 := row_cell hr (i := 193) (by omega); have c194 := row_cell hr (i := 194) (by omega); have c195 := row_cell hr (i := 195) (by omega); have c0 := row_cell hr (i := 0) (by omega); rw [f2, Nat.zero_add] at c193; rw [f3, Nat.zero_add] at c194; rw [f4, Nat.zero_add] at c195; rw [f5, Nat.zero_add] at c0)
    | (have hrr := hr; go_at_call 12; refine (take_len _ _ 197 C H1.out 2 _ hr hC1 hC2).mono ?_; rw [H7.out, H8.out]; rintro e w2 ⟨v2, rfl, hown2, hb2⟩; obtain ⟨g2, cp2, rfl, -⟩ := own_slice hown2 (by simp); have hr2 := row_of_own hown2; have hrc2 := row_below hr hb2; have d0 := row_cell hr2 (i := 0) (by simp); have d1 := row_cell hr2 (i := 1) (by simp); clear hr)
    | (go_at_call 12; refine (take_len _ _ 197 C H1.out 3 _ hrc2 hC1 hC2).mono ?_; rw [H9.out, H10.out]; rintro e w3 ⟨v3, rfl, hown3, hb3⟩; have hrc3 := row_below hrc2 hb3; have e0 := (hb3.cell (World.block_lt_of_cell? _ _ d0)).trans d0; have e1 := (hb3.cell (World.block_lt_of_cell? _ _ d1)).trans d1)
    | (go_at_call 14; refine (free_len _ _ 197 C H1.out _ hrc3 hC1).mono ?_; rw [H11.out]; rintro e w4 ⟨rfl, hb4⟩))
  go_ret
  refine retB rfl ?_
  have hb0 : Below w.heap.size w (((w.alloc (.cells #[.int .i64 193, .int .i64 0, .int .i64 195] 3)).alloc (.cells #[.int .i64 193] 3)).alloc (.cells #[.slice (some ⟨w.heap.size, 0, none⟩) 3 3, .slice (some ⟨w.heap.size + 1, 0, none⟩) 1 1] 23)) := (((Below.refl _ w).alloc (Nat.le_refl _) _).alloc (by simp) _).alloc (by simp; omega) _
  exact grew_trans (grew_trans (grew_trans (grew_trans hb0 hb1) hb2) hb3) hb4

theorem below_drewN' (w : World) (q : Nat) : Below w.heap.size w (w.drewN q) := ⟨rfl, rfl, rfl, Nat.le_refl _, fun _ _ => rfl⟩
theorem ints_same (xs : List Int) (ax ay : Option Addr) (cx cy : Nat) (w : World) (hx : Row w ax xs) (hy : Row w ay xs) (hlx : xs.length ≤ maxLen) :
    Calls Try.prog 10 #[.slice ax xs.length cx, .slice ay xs.length cy] w (RetB true w) := by
  refine (ints_any xs xs ax ay cx cy w hx hy hlx).mono ?_
  rintro e w3 ⟨rfl, q, rfl⟩
  rw [decide_eq_true rfl]
  exact retB rfl (below_drewN' w q)
theorem lpost_form {xs : List Int} {er : Int} {w w' : World} {e : Ending} (h : LPost xs er w e w') : ∃ a cap, e = .returned (.tuple #[.slice a xs.length cap, .int .i64 er]) ∧ Row w' a xs ∧ Below w.heap.size w w' := by
  obtain ⟨v, rfl, hown, hb⟩ := h
  obtain ⟨a, cap, rfl, -, -, -, -, -, hr⟩ := own_row hown
  exact ⟨a, cap, rfl, hr, hb⟩
theorem counts_le (ls : List (List Int)) (n : Int) : (counts ls n).length ≤ 1024 := by
  unfold counts
  split
  · simp
  · cases h : cnt n.toNat (places ls) with
    | none => simp
    | some o => have := cnt_len _ _ h; simp; omega
theorem takes_le (cs : List Int) (n : Int) : (takes cs n).length ≤ cs.length := by
  have := freesTo_len cs cs.length
  unfold takes frees
  split
  · simp
  · split
    · simp
    · simp; omega

set_option maxHeartbeats 1000000 in
theorem lawCounts (a : Option Addr) (cap : Nat) (ls : List (List Int)) (n : Int) (w : World) (him : Imgs w a ls) (hlen : ls.length ≤ maxLen) (hls : ∀ i, (ls.getD i []).length ≤ maxLen) :
    Calls Try.prog 3 #[.slice a ls.length cap, .int .i64 n] w (RetB true w) := by
  have hl : (counts ls n).length ≤ maxLen := by have := counts_le ls n; unfold maxLen; omega
  go_enter Try.func3, Try.ntmps3
  go_wp2_with (first
    | (go_at_call 8; refine (counts_any a cap ls n _ him hlen hls).mono ?_; intro e w1 hp; obtain ⟨a1, c1, rfl, hr1, hb1⟩ := lpost_form hp; have him1 := imgs_below him hb1; clear him hp)
    | (go_at_call 9; refine (rcounts_any a cap ls n _ him1 hlen hls).mono ?_; intro e w2 hp; obtain ⟨a2, c2, rfl, hr2, hb2⟩ := lpost_form hp; have hr12 := row_below hr1 hb2; clear him1 hp)
    | (go_at_call 10; refine (ints_same (counts ls n) _ _ _ _ _ hr12 hr2 hl).mono ?_; rintro e w3 ⟨rfl, hb3⟩)
    | (go_at_call 11; refine (works_any _).mono ?_; rintro e w4 ⟨rfl, hb4⟩))
  go_ret
  exact retB rfl (grew_trans (grew_trans (grew_trans hb1 hb2) hb3) hb4)

set_option maxHeartbeats 1000000 in
theorem lawTakes (a : Option Addr) (cap : Nat) (cs : List Int) (n : Int) (w : World) (hrow : Row w a cs) (hlen : cs.length ≤ maxLen) (hbytes : cs.length * 8 ≤ 140737488355328) :
    Calls Try.prog 4 #[.slice a cs.length cap, .int .i64 n] w (RetB true w) := by
  have hl : (takes cs n).length ≤ maxLen := Nat.le_trans (takes_le cs n) hlen
  go_enter Try.func4, Try.ntmps4
  go_wp2_with (first
    | (go_at_call 12; refine (take_any a cap cs n _ hrow hlen hbytes).mono ?_; intro e w1 hp; obtain ⟨a1, c1, rfl, hr1, hb1⟩ := lpost_form hp; have hrow1 := row_below hrow hb1; clear hrow hp)
    | (go_at_call 13; refine (rtake_any a cap cs n _ hrow1 hlen hbytes).mono ?_; intro e w2 hp; obtain ⟨a2, c2, rfl, hr2, hb2⟩ := lpost_form hp; have hr12 := row_below hr1 hb2; have hrow2 := row_below hrow1 hb2; clear hrow1 hp)
    | (go_at_call 10; refine (ints_same (takes cs n) _ _ _ _ _ hr12 hr2 hl).mono ?_; rintro e w3 ⟨rfl, hb3⟩; have hrow2' := row_below hrow2 hb3)
    | (go_at_call 14; refine (free_any a cap cs _ hrow2' hlen).mono ?_; rintro e w5 ⟨rfl, hb5⟩; have hrow3 := row_below hrow2' hb5)
    | (go_at_call 15; refine (rfree_any a cap cs _ hrow3 hlen).mono ?_; rintro e w6 ⟨rfl, rfl⟩)
    | (go_at_call 11; refine (works_any _).mono ?_; rintro e w4 ⟨rfl, hb4⟩))
  go_ret
  exact retB rfl (grew_trans (grew_trans (grew_trans (grew_trans hb1 hb2) hb3) hb5) hb4)
end Go.Proofs.Ytbpbbggbjnjocaa
