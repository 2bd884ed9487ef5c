/- The chapter's examples. -/
import Derived.Test.YtbpbbggbjnjocaaLaws
namespace Go.Proofs.Ytbpbbggbjnjocaa
open Go.RowKit Go.Joins

theorem rows_nil (w : World) (a : Option Addr) : Row w a [] := fun i hi => absurd hi (Nat.not_lt_zero i)
theorem imgs_nil (w : World) : Imgs w none [] := fun i hi => absurd hi (Nat.not_lt_zero i)

theorem keepc {w w' : World} {p : Addr} {v : Value} (h : w.cell? p = some v) (hb : Below w.heap.size w w') : w'.cell? p = some v := (hb.cell (World.block_lt_of_cell? _ _ h)).trans h
theorem keepa {w : World} {p : Addr} {v : Value} (h : w.cell? p = some v) (o : Obj) : (w.alloc o).cell? p = some v := keepc h ((Below.refl _ w).alloc (Nat.le_refl _) o)
theorem counts_form (a : Option Addr) (cap len : Nat) (ls : List (List Int)) (hl : ls.length = len) (n : Int) (xs : List Int) (er : Int) (hx : counts ls n = xs) (he : countsE ls n = er) (w : World) (him : Imgs w a ls) (hlen : ls.length ≤ 10) (hls : ∀ x ∈ ls, x.length ≤ 10) :
    Calls Try.prog 8 #[.slice a len cap, .int .i64 n] w (LPost xs er w) := by
  subst hx he
  refine counts_len a cap len ls hl n w him (by unfold maxLen; omega) (fun i => ?_)
  by_cases h : i < ls.length
  · have := hls (ls.getD i []) (by simp [h])
    unfold maxLen; omega
  · simp [h]
theorem take_form (a : Option Addr) (cap len : Nat) (cs : List Int) (hl : cs.length = len) (n : Int) (xs : List Int) (er : Int) (hx : takes cs n = xs) (he : takesE cs n = er) (w : World) (hr : Row w a cs) (hlen : len ≤ 1000) :
    Calls Try.prog 12 #[.slice a len cap, .int .i64 n] w (LPost xs er w) := by
  subst hx he
  exact take_len a cap len cs hl n w hr (by unfold maxLen; omega) (by omega)
theorem free_form (a : Option Addr) (cap len : Nat) (cs : List Int) (hl : cs.length = len) (hx : frees cs = []) (w : World) (hr : Row w a cs) (hlen : len ≤ 1000) :
    Calls Try.prog 14 #[.slice a len cap] w (RetI 0 w) := by
  have := free_len a cap len cs hl w hr (by unfold maxLen; omega)
  rw [hx] at this
  exact this

def badL : List Int := [192, 300, -1, 1, 1099511627776]
theorem bad_at : ∀ i, i < 5 → badL.getD i 0 ≠ 0 ∧ (badL.getD i 0 < 193 ∨ 300 ≤ badL.getD i 0) := by decide
theorem cnt_bad {n : Nat} {z : Int} (h : z < 193 ∨ (n : Int) ≤ z) : cnt n [z] = none := by
  have := cnt_snoc n [] z
  rw [List.nil_append] at this
  rw [this]
  show cstep n (some _) z = none
  rw [cstep, if_pos h]
theorem bad_counts {z : Int} (h0 : z ≠ 0) (h : z < 193 ∨ 300 ≤ z) : counts [[], [0, z]] 300 = [] ∧ countsE [[], [0, z]] 300 = 2 := by
  have e : places [[], [0, z]] = [z] := by simp [places, nz, h0]
  have e2 : cnt (300 : Int).toNat [z] = none := cnt_bad h
  exact ⟨by rw [counts, if_neg (by omega), e, e2]; rfl, by rw [countsE, if_neg (by omega), e, e2]; rfl⟩

theorem imgs_bad (W : World) (z : Int) : Imgs (((W.alloc (.cells #[] 3)).alloc (.cells #[.int .i64 0, .int .i64 z] 3)).alloc (.cells #[.slice (some ⟨W.heap.size, 0, none⟩) 0 0, .slice (some ⟨W.heap.size + 1, 0, none⟩) 2 2] 23))
    (some ⟨W.heap.size + 1 + 1, 0, none⟩) [[], [0, z]] := by
  refine imgs_lit _ 23 [.slice (some ⟨W.heap.size, 0, none⟩) 0 0, .slice (some ⟨W.heap.size + 1, 0, none⟩) 2 2] _ _ (by simp) rfl fun i hi => ?_
  match i, hi with
  | 0, _ => exact ⟨_, 0, rfl, rows_nil _ _⟩
  | 1, _ => exact ⟨_, 2, rfl, row_lit _ 3 _ [0, z] (by simp)⟩
theorem imgs_one (W : World) : Imgs ((W.alloc (.cells #[.int .i64 299, .int .i64 193, .int .i64 299] 3)).alloc (.cells #[.slice (some ⟨W.heap.size, 0, none⟩) 3 3] 23)) (some ⟨W.heap.size + 1, 0, none⟩) [[299, 193, 299]] := by
  refine imgs_lit _ 23 [.slice (some ⟨W.heap.size, 0, none⟩) 3 3] _ _ (by simp) rfl fun i hi => ?_
  match i, hi with
  | 0, _ => exact ⟨_, 3, rfl, row_lit _ 3 _ [299, 193, 299] rfl⟩
theorem one_facts : (counts [[299, 193, 299]] 300).length = 300 ∧ (counts [[299, 193, 299]] 300).getD 299 0 = 2 ∧ (counts [[299, 193, 299]] 300).getD 193 0 = 1 ∧ countsE [[299, 193, 299]] 300 = 0 := by decide +kernel
theorem z_facts : takes (List.replicate 195 0) 0 = [] ∧ takesE (List.replicate 195 0) 0 = 0 ∧ takes (List.replicate 195 0) (-1) = [] ∧ takesE (List.replicate 195 0) (-1) = 2 ∧ takes (List.replicate 195 0) 2 = [193, 194] ∧ takesE (List.replicate 195 0) 2 = 0 := by decide +kernel

theorem row_zeros (w : World) (m : Nat) : Row (w.alloc (.cells ((List.replicate m (0 : Int)).map (Value.int .i64)).toArray 3)) (some ⟨w.heap.size, 0, none⟩) (List.replicate m 0) := row_lit w 3 _ _ rfl

set_option maxRecDepth 100000 in
set_option maxHeartbeats 4000000 in
theorem lawKnown (w : World) : Calls Try.prog 7 #[] w (RetB true w) := by
  obtain ⟨g1, g2, g3, g4⟩ := one_facts
  obtain ⟨z1, z2, z3, z4, z5, z6⟩ := z_facts
  have hl195 : (List.replicate 195 (0 : Int)).length = 195 := by simp
  have hmk : ∀ w, (Instr.makeSlice 23 (.int .i64 195) (.int .i64 195)).run Try.prog w = .ok (.slice (some ⟨w.heap.size, 0, none⟩) 195 195) (w.alloc (.cells ((List.replicate 195 (0 : Int)).map (Value.int .i64)).toArray 3)) := fun w => run_make_zeros w 195 (by decide)
  have hrz := fun w => row_zeros w 195
  have hmk3 : ∀ w, (Instr.makeSlice 23 (.int .i64 193) (.int .i64 193)).run Try.prog w = .ok (.slice (some ⟨w.heap.size, 0, none⟩) 193 193) (w.alloc (.cells ((List.replicate 193 (0 : Int)).map (Value.int .i64)).toArray 3)) := fun w => run_make_zeros w 193 (by decide)
  have hrz3 := fun w => row_zeros w 193
  have hl193 : (List.replicate 193 (0 : Int)).length = 193 := by simp
  have hf193 : frees (List.replicate 193 (0 : Int)) = [] := freesTo_short (by simp)
  have hC := counts_form
  generalize List.replicate 195 (0 : Int) = L at *
  generalize (L.map (Value.int .i64)).toArray = LA at *
  generalize List.replicate 193 (0 : Int) = M at *
  generalize (M.map (Value.int .i64)).toArray = MA at *
  have HL := Lib.hid hl195
  have HM := Lib.hid hl193
  have HF := Lib.hid hf193
  have Z := Lib.hid (And.intro z1 (And.intro z2 (And.intro z3 (And.intro z4 (And.intro z5 z6)))))
  have HZ := Lib.hid hrz
  have HZ3 := Lib.hid hrz3
  clear hC hl195 hl193 hf193 z1 z2 z3 z4 z5 z6 hrz hrz3
  go_enter Try.func7, Try.ntmps7
  go_wp2
  go_loopg [2] 5 (fun k v2 wr => ∃ i : Nat, i + k = 5 ∧ v2 = .int .i64 (i : Int) ∧ Below (w.heap.size + 1) (w.alloc (.cells (badL.map (Value.int .i64)).toArray 3)) wr)
  case atStart => exact ⟨0, rfl, rfl, Below.refl _ _⟩
  case round =>
    obtain ⟨i, hik, rfl, hB⟩ := hrel
    by_cases hlt : i < 5
    · have hcell := (hB.cell (p := ⟨w.heap.size, 0 + i, none⟩) (by simp)).trans (row_cell (row_lit w 3 w.heap.size badL rfl) (i := i) hlt)
      rw [Nat.zero_add] at hcell
      have hbad := bad_at i hlt
      generalize badL.getD i 0 = z at hcell hbad
      have hz := Lib.hid (bad_counts hbad.1 hbad.2)
      have hwl := (World.block_lt_of_cell? _ _ hcell)
      have hcell2 := (((Below.refl _ wr).alloc (Nat.le_refl _) (.cells #[] 3)).cell (p := ⟨w.heap.size, i, none⟩) hwl).trans hcell
      clear hbad
      go_wp2_with (go_at_call 8; refine (counts_form _ 2 2 [[], [0, z]] rfl 300 [] 2 hz.out.1 hz.out.2 _ (imgs_bad wr z) (by simp) (by simp)).mono ?_; intro e w1 hp; obtain ⟨a1, c1, rfl, hr1, hb1⟩ := lpost_form hp; clear hp)
      go_roundg (gk - 1)
      case measure => omega
      case rel =>
        refine ⟨i + 1, by omega, by simp, hB.trans (Below.trans (?_ : Below _ wr _) (hb1.mono (by have := hB.size; simp at this ⊢; omega)))⟩
        have hsz := hB.size
        simp at hsz
        exact (((Below.refl _ wr).alloc hsz _).alloc (by simp; omega) _).alloc (by simp; omega) _
    · obtain rfl : i = 5 := by omega
      have T1 : True := trivial
      have hB0 : Below w.heap.size w wr := ((Below.refl _ w).alloc (Nat.le_refl _) _).trans (hB.mono (by omega))
      clear hB
      have N1 : Hid (counts [] 1025 = [] ∧ countsE [] 1025 = 2 ∧ counts [] (-1) = [] ∧ countsE [] (-1) = 2 ∧ counts [] 0 = [] ∧ countsE [] 0 = 0) := by unfold Hid; decide
      have N2 : Hid (takes [] 1 = [] ∧ takesE [] 1 = 7) := by unfold Hid; decide
      have N3 : Hid (frees [] = [] ∧ frees [0, 0] = []) := ⟨freesTo_short (by simp), freesTo_short (by simp)⟩
      generalize hC : counts [[299, 193, 299]] 300 = C at *
      have G := Lib.hid (And.intro hC g4)
      have HG1 := Lib.hid g1
      clear hC g4 g1
      go_wp2_with (first
        | (go_at_call 8; have q := T1; refine (counts_form none 0 0 [] rfl 1025 [] 2 N1.out.1 N1.out.2.1 _ (imgs_nil _) (by simp) (by simp)).mono ?_; intro e w1 hp; obtain ⟨a1, c1, rfl, -, hb1⟩ := lpost_form hp; clear hp T1 q; have T2 := trivial)
        | (go_at_call 8; have q := T2; refine (counts_form none 0 0 [] rfl (-1) [] 2 N1.out.2.2.1 N1.out.2.2.2.1 _ (imgs_nil _) (by simp) (by simp)).mono ?_; intro e w2 hp; obtain ⟨a2, c2, rfl, -, hb2⟩ := lpost_form hp; clear hp T2 q; have T3 := trivial)
        | (go_at_call 8; have q := T3; refine (counts_form none 0 0 [] rfl 0 [] 0 N1.out.2.2.2.2.1 N1.out.2.2.2.2.2 _ (imgs_nil _) (by simp) (by simp)).mono ?_; intro e w3 hp; obtain ⟨a3, c3, rfl, -, hb3⟩ := lpost_form hp; clear hp T3 q; have T4 := trivial)
        | (go_at_call 8; have q := T4; refine (counts_form _ 1 1 [[299, 193, 299]] rfl 300 C 0 G.out.1 G.out.2 _ (imgs_one w3) (by simp) (by simp)).mono ?_; rintro e w4 ⟨v4, rfl, hown, hb4⟩; rw [HG1.out] at hown; obtain ⟨g, cp, rfl, -⟩ := own_slice hown (by omega); have hr := row_of_own hown; have c299 := row_cell hr (i := 299) (by rw [HG1.out]; omega); have c193 := row_cell hr (i := 193) (by rw [HG1.out]; omega); rw [g2, Nat.zero_add] at c299; rw [g3, Nat.zero_add] at c193; clear T4 q; have T5 := trivial)
        | (go_at_call 12; have q := T5; refine (take_form _ 195 195 L HL.out 0 [] 0 Z.out.1 Z.out.2.1 _ (HZ.out w4) (by omega)).mono ?_; intro e w5 hp; obtain ⟨a5, c5, rfl, -, hb5⟩ := lpost_form hp; replace c299 := keepc (keepa c299 _) hb5; replace c193 := keepc (keepa c193 _) hb5; clear hp T5 q; have T6 := trivial)
        | (go_at_call 12; have q := T6; refine (take_form _ 195 195 L HL.out (-1) [] 2 Z.out.2.2.1 Z.out.2.2.2.1 _ (HZ.out w5) (by omega)).mono ?_; intro e w6 hp; obtain ⟨a6, c6, rfl, -, hb6⟩ := lpost_form hp; replace c299 := keepc (keepa c299 _) hb6; replace c193 := keepc (keepa c193 _) hb6; clear hp T6 q; have T7 := trivial)
        | (go_at_call 12; have q := T7; refine (take_form _ 195 195 L HL.out 2 [193, 194] 0 Z.out.2.2.2.2.1 Z.out.2.2.2.2.2 _ (HZ.out w6) (by omega)).mono ?_; rintro e w7 ⟨v7, rfl, hown7, hb7⟩; obtain ⟨g7, cp7, rfl, -⟩ := own_slice hown7 (by simp); have hr7 := row_of_own hown7; have d0 := row_cell hr7 (i := 0) (by simp); have d1 := row_cell hr7 (i := 1) (by simp); replace c299 := keepc (keepa c299 _) hb7; replace c193 := keepc (keepa c193 _) hb7; clear T7 q; have T8 := trivial)
        | (go_at_call 12; have q := T8; refine (take_form none 0 0 [] rfl 1 [] 7 N2.out.1 N2.out.2 _ (rows_nil _ _) (by omega)).mono ?_; intro e w8 hp; obtain ⟨a8, c8, rfl, -, hb8⟩ := lpost_form hp; replace c299 := keepc c299 hb8; replace c193 := keepc c193 hb8; replace d0 := keepc d0 hb8; replace d1 := keepc d1 hb8; clear hp T8 q; have T9 := trivial)
        | (go_at_call 11; have q := T9; refine (works_any _).mono ?_; rintro e w9 ⟨rfl, hb9⟩; replace c299 := keepc c299 hb9; replace c193 := keepc c193 hb9; replace d0 := keepc d0 hb9; replace d1 := keepc d1 hb9; clear T9 q; have T10 := trivial)
        | (go_at_call 14; have q := T10; refine (free_form _ 193 193 M HM.out HF.out _ (HZ3.out w9) (by omega)).mono ?_; rintro e w10 ⟨rfl, hb10⟩; clear T10 q; have T11 := trivial)
        | (go_at_call 14; have q := T11; refine (free_form none 0 0 [] rfl N3.out.1 _ (rows_nil _ _) (by omega)).mono ?_; rintro e w11 ⟨rfl, hb11⟩; clear T11 q; have T12 := trivial)
        | (go_at_call 14; have q := T12; refine (free_form _ 2 2 [0, 0] rfl N3.out.2 _ (row_lit w11 3 _ [0, 0] rfl) (by omega)).mono ?_; rintro e w12 ⟨rfl, hb12⟩; clear T12 q))
      go_ret
      refine retB rfl ?_
      have al : ∀ (W : World) (o : Obj), Below W.heap.size W (W.alloc o) := fun W o => (Below.refl _ W).alloc (Nat.le_refl _) o
      have B3 := grew_trans (grew_trans (grew_trans hB0 hb1) hb2) hb3
      have B4 := grew_trans (grew_trans (grew_trans B3 (al _ _)) (al _ _)) hb4
      have B7 := grew_trans (grew_trans (grew_trans (grew_trans (grew_trans (grew_trans B4 (al _ _)) hb5) (al _ _)) hb6) (al _ _)) hb7
      have B9 := grew_trans (grew_trans B7 hb8) hb9
      exact grew_trans (grew_trans (grew_trans (grew_trans (grew_trans B9 (al _ _)) hb10) hb11) (al _ _)) hb12
end Go.Proofs.Ytbpbbggbjnjocaa
