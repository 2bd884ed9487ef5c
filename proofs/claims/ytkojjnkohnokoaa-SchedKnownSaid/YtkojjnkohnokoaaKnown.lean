/- The chapter's examples. -/
import Derived.Test.YtkojjnkohnokoaaKnownP
import Derived.Deep.RegionHeld3
namespace Go.Proofs.Ytkojjnkohnokoaa
open Go.RowKit Go.Joins
set_option linter.unusedSimpArgs false

theorem keepc {w w' : World} {p : Addr} {v : Value} (h : w.cell? p = some v) (hb : Below w.heap.size w w') : w'.cell? p = some v := (hb.cell (World.block_lt_of_cell? _ _ h)).trans h
theorem four {α : Type} {l : List α} (h : l.length = 4) : ∃ a b c d, l = [a, b, c, d] := by
  match l, h with
  | [a, b, c, d], _ => exact ⟨a, b, c, d, rfl⟩
theorem own_nil {w : World} {base : Nat} {v : Value} (h : OwnL encF 3 46 w base v []) : ∃ a c, v = .slice a 0 c := by
  obtain ⟨a, c, rfl, -⟩ := h.sli EF
  exact ⟨a, c, rfl⟩
theorem own_cells {w : World} {base n : Nat} {v : Value} {l : List Fr} (h : OwnL encF 3 46 w base v l) (hn : l.length = n) (h0 : 0 < n) : ∃ g cap, v = .slice (some ⟨g, 0, none⟩) n cap ∧ ∀ i j u, i < n → (encF (l.getD i default))[j]? = some u → w.cell? ⟨g, i * 3 + j, none⟩ = some u := by
  subst hn
  obtain ⟨g, cap, rfl, -, -⟩ := h.form h0
  obtain ⟨a', c', e, hs, -⟩ := h.sli EF
  simp at e
  obtain ⟨rfl, rfl⟩ := e
  refine ⟨g, cap, rfl, fun i j u hi hu => ?_⟩
  obtain ⟨b', o', e, hc⟩ := hs.lst i hi
  simp at e
  obtain ⟨rfl, rfl⟩ := e
  have := hc j u hu
  rwa [Nat.zero_add] at this
set_option maxHeartbeats 16000000 in
set_option maxRecDepth 100000 in
theorem lawKnown (W : World) : Calls Try.prog 6 #[] W (RetB true W) := by
  obtain ⟨A1, hA1⟩ : ∃ A1, A1 = textB 40 1 := ⟨_, rfl⟩
  have sA1 : A1.size = 40 := by rw [hA1, textB_size]; rfl
  have HA1 := Lib.hid (fun V (m : Int) (hm : m = 40) => (show Calls Try.prog 12 #[.int .i64 m, .int .i64 1] V (RetV (.string A1) V) from hm ▸ hA1 ▸ text_any 40 1 V (by omega) (by omega)))
  clear hA1
  obtain ⟨A2, hA2⟩ : ∃ A2, A2 = textB 40 2 := ⟨_, rfl⟩
  have sA2 : A2.size = 40 := by rw [hA2, textB_size]; rfl
  have HA2 := Lib.hid (fun V (m : Int) (hm : m = 40) => (show Calls Try.prog 12 #[.int .i64 m, .int .i64 2] V (RetV (.string A2) V) from hm ▸ hA2 ▸ text_any 40 2 V (by omega) (by omega)))
  clear hA2
  obtain ⟨A3, hA3⟩ : ∃ A3, A3 = textB 40 3 := ⟨_, rfl⟩
  have sA3 : A3.size = 40 := by rw [hA3, textB_size]; rfl
  have HA3 := Lib.hid (fun V (m : Int) (hm : m = 40) => (show Calls Try.prog 12 #[.int .i64 m, .int .i64 3] V (RetV (.string A3) V) from hm ▸ hA3 ▸ text_any 40 3 V (by omega) (by omega)))
  clear hA3
  obtain ⟨B1, hB1⟩ : ∃ B1, B1 = textB 30 1 := ⟨_, rfl⟩
  have sB1 : B1.size = 30 := by rw [hB1, textB_size]; rfl
  have HB1 := Lib.hid (fun V (m : Int) (hm : m = 30) => (show Calls Try.prog 12 #[.int .i64 m, .int .i64 1] V (RetV (.string B1) V) from hm ▸ hB1 ▸ text_any 30 1 V (by omega) (by omega)))
  clear hB1
  obtain ⟨B2, hB2⟩ : ∃ B2, B2 = textB 120 2 := ⟨_, rfl⟩
  have sB2 : B2.size = 120 := by rw [hB2, textB_size]; rfl
  have HB2 := Lib.hid (fun V (m : Int) (hm : m = 120) => (show Calls Try.prog 12 #[.int .i64 m, .int .i64 2] V (RetV (.string B2) V) from hm ▸ hB2 ▸ text_any 120 2 V (by omega) (by omega)))
  clear hB2
  obtain ⟨C1, hC1⟩ : ∃ C1, C1 = textB 10 1 := ⟨_, rfl⟩
  have sC1 : C1.size = 10 := by rw [hC1, textB_size]; rfl
  have HC1 := Lib.hid (fun V (m : Int) (hm : m = 10) => (show Calls Try.prog 12 #[.int .i64 m, .int .i64 1] V (RetV (.string C1) V) from hm ▸ hC1 ▸ text_any 10 1 V (by omega) (by omega)))
  clear hC1
  obtain ⟨C2, hC2⟩ : ∃ C2, C2 = textB 81 1 := ⟨_, rfl⟩
  have sC2 : C2.size = 81 := by rw [hC2, textB_size]; rfl
  have HC2 := Lib.hid (fun V (m : Int) (hm : m = 81) => (show Calls Try.prog 12 #[.int .i64 m, .int .i64 1] V (RetV (.string C2) V) from hm ▸ hC2 ▸ text_any 81 1 V (by omega) (by omega)))
  clear hC2
  obtain ⟨Ea, hEa⟩ : ∃ Ea, Ea = textB 1 0 := ⟨_, rfl⟩
  have sEa : Ea.size = 1 := by rw [hEa, textB_size]; rfl
  have HEa := Lib.hid (fun V (m : Int) (hm : m = 1) => (show Calls Try.prog 12 #[.int .i64 m, .int .i64 0] V (RetV (.string Ea) V) from hm ▸ hEa ▸ text_any 1 0 V (by omega) (by omega)))
  clear hEa
  obtain ⟨Ga, hGa⟩ : ∃ Ga, Ga = textB 8193 0 := ⟨_, rfl⟩
  have sGa : Ga.size = 8193 := by rw [hGa, textB_size]; rfl
  have HGa := Lib.hid (fun V (m : Int) (hm : m = 8193) => (show Calls Try.prog 12 #[.int .i64 m, .int .i64 0] V (RetV (.string Ga) V) from hm ▸ hGa ▸ text_any 8193 0 V (by omega) (by omega)))
  clear hGa
  obtain ⟨Gb, hGb⟩ : ∃ Gb, Gb = textB 8192 0 := ⟨_, rfl⟩
  have sGb : Gb.size = 8192 := by rw [hGb, textB_size]; rfl
  have HGb := Lib.hid (fun V (m : Int) (hm : m = 8192) => (show Calls Try.prog 12 #[.int .i64 m, .int .i64 0] V (RetV (.string Gb) V) from hm ▸ hGb ▸ text_any 8192 0 V (by omega) (by omega)))
  clear hGb
  have G0 : Hid (Good (K [] [] [] [] 0 0 0 0)) := Lib.hid (k_new ▸ good_new)
  have E1 : Hid (putE (K [] [] [] [] 0 0 0 0) 0 A1 = 0 ∧ putS (K [] [] [] [] 0 0 0 0) 0 A1 = K [A1] [] [] [] 0 0 0 0) := Lib.hid (k_put0 (by omega) (by omega) (by simp))
  have G1 : Hid (Good (K [A1] [] [] [] 0 0 0 0)) := Lib.hid (E1.out.2 ▸ good_put G0.out _ _)
  have E2 : Hid (putE (K [A1] [] [] [] 0 0 0 0) 0 A2 = 0 ∧ putS (K [A1] [] [] [] 0 0 0 0) 0 A2 = K [A1, A2] [] [] [] 0 0 0 0) := Lib.hid (k_put0 (by omega) (by omega) (by simp))
  have G2 : Hid (Good (K [A1, A2] [] [] [] 0 0 0 0)) := Lib.hid (E2.out.2 ▸ good_put G1.out _ _)
  have E3 : Hid (putE (K [A1, A2] [] [] [] 0 0 0 0) 0 A3 = 0 ∧ putS (K [A1, A2] [] [] [] 0 0 0 0) 0 A3 = K [A1, A2, A3] [] [] [] 0 0 0 0) := Lib.hid (k_put0 (by omega) (by omega) (by simp))
  have G3 : Hid (Good (K [A1, A2, A3] [] [] [] 0 0 0 0)) := Lib.hid (E3.out.2 ▸ good_put G2.out _ _)
  have EW : Hid (waitsS (K [A1, A2, A3] [] [] [] 0 0 0 0) 0 = 120) := Lib.hid (k_waits0.trans (by simp [bytes, sA1, sA2, sA3]))
  have EL : Hid (lenS (K [A1, A2, A3] [] [] [] 0 0 0 0) = 3) := Lib.hid (k_len.trans rfl)
  have E4 : Hid (roundS (K [A1, A2, A3] [] [] [] 0 0 0 0) = K [A3] [] [] [] 0 0 0 0 ∧ roundF (K [A1, A2, A3] [] [] [] 0 0 0 0) = [(0, A1), (0, A2)]) := Lib.hid (by refine ⟨k_round.1.trans ?_, k_round.2.trans ?_⟩ <;> simp [lround, drain, sA1, sA2, sA3])
  have G4 : Hid (Good (K [A3] [] [] [] 0 0 0 0)) := Lib.hid (E4.out.1 ▸ good_round G3.out)
  have E5 : Hid (roundS (K [A3] [] [] [] 0 0 0 0) = K [] [] [] [] 0 0 0 0 ∧ roundF (K [A3] [] [] [] 0 0 0 0) = [(0, A3)]) := Lib.hid (by refine ⟨k_round.1.trans ?_, k_round.2.trans ?_⟩ <;> simp [lround, drain, sA3])
  have G5 : Hid (Good (K [] [] [] [] 0 0 0 0)) := Lib.hid (E5.out.1 ▸ good_round G4.out)
  have T1 := trivial
  go_enter Try.func6, Try.ntmps6
  go_upto_region 6 with (first
    | (have z := T1; go_at_call 7; refine (o_new W).mono ?_; rw [k_new]; rintro e w1 ⟨p, rfl, h1, -⟩; have N := Lib.hid h1; clear h1; clear T1 z; have T2 := trivial)
    | (have z := T2; go_at_call 12; refine (HA1.out _ 40 (by decide)).mono ?_; rintro e w2 ⟨rfl, hb⟩; have N' := Lib.hid (N.out.below hb); clear N hb; have N := N'; clear N'; clear T2 z; have T3 := trivial)
    | (have z := T3; go_at_call 11; refine (o_put (lk := 0) (b := A1) N.out).mono ?_; rw [E1.out.1, E1.out.2]; rintro e w2 ⟨rfl, h1, hm⟩; clear N hm; have N := Lib.hid h1; clear h1; clear T3 z; have T4 := trivial)
    | (have z := T4; go_at_call 12; refine (HA2.out _ 40 (by decide)).mono ?_; rintro e w2 ⟨rfl, hb⟩; have N' := Lib.hid (N.out.below hb); clear N hb; have N := N'; clear N'; clear T4 z; have T5 := trivial)
    | (have z := T5; go_at_call 11; refine (o_put (lk := 0) (b := A2) N.out).mono ?_; rw [E2.out.1, E2.out.2]; rintro e w2 ⟨rfl, h1, hm⟩; clear N hm; have N := Lib.hid h1; clear h1; clear T5 z; have T6 := trivial)
    | (have z := T6; go_at_call 12; refine (HA3.out _ 40 (by decide)).mono ?_; rintro e w2 ⟨rfl, hb⟩; have N' := Lib.hid (N.out.below hb); clear N hb; have N := N'; clear N'; clear T6 z; have T7 := trivial)
    | (have z := T7; go_at_call 11; refine (o_put (lk := 0) (b := A3) N.out).mono ?_; rw [E3.out.1, E3.out.2]; rintro e w2 ⟨rfl, h1, hm⟩; clear N hm; have N := Lib.hid h1; clear h1; clear T7 z; have T8 := trivial)
    | (have z := T8; go_at_call 16; refine (o_waits N.out G3.out).mono ?_; rw [EW.out]; rintro e w2 ⟨rfl, rfl⟩; clear T8 z; have T9 := trivial)
    | (have z := T9; go_at_call 14; refine (o_len N.out G3.out).mono ?_; rw [EL.out]; rintro e w2 ⟨rfl, hb⟩; have N' := Lib.hid (N.out.below hb); clear N hb; have N := N'; clear N'; clear T9 z; have T10 := trivial)
    | (have z := T10; go_at_call 9; refine (o_round N.out G3.out).mono ?_; rw [E4.out.1, E4.out.2]; rintro e w3 ⟨v, rfl, hov, h1, hm⟩; obtain ⟨g4, cp4, rfl, hcs⟩ := own_cells (n := 2) hov rfl (by omega); have CA : Hid (w3.cell? ⟨g4, 5, none⟩ = some (.string A2)) := Lib.hid (hcs 1 2 _ (by omega) rfl); clear N hm hov hcs; have N := Lib.hid h1; clear h1; clear T10 z; have T11 := trivial)
    | (have z := T11; go_at_call 9; refine (o_round N.out G4.out).mono ?_; rw [E5.out.1, E5.out.2]; rintro e w3 ⟨v, rfl, hov, h1, hm⟩; obtain ⟨g5, cp5, rfl, hcs⟩ := own_cells (n := 1) hov rfl (by omega); have CA' := Lib.hid (hm.cell CA.out (fun c => c.1 (.inr rfl))); clear CA; have CA := CA'; clear CA'; clear N hm hov hcs; have N := Lib.hid h1; clear h1; clear T11 z; have T12 := trivial))
  have y0 := CA.out
  have E6 : Hid (roundS (K [] [] [] [] 0 0 0 0) = K [] [] [] [] 0 0 0 0 ∧ roundF (K [] [] [] [] 0 0 0 0) = []) := Lib.hid (by refine ⟨k_round.1.trans ?_, k_round.2.trans ?_⟩ <;> simp [lround])
  go_region_held3 (fun w' => w'.cell? ⟨g4, 5, none⟩ = some (.string A2)) (first | exact y2 | exact y1 | exact y0 | go_keep) (first
    | (have z := T12; go_at_call 12; refine (HA2.out _ 40 (by decide)).mono ?_; rintro e w2 ⟨rfl, hb⟩; have N1 := Lib.hid ((N.out.below (Below.refl _ _).drew).below hb); have y1 := keepc y0 ((Below.refl _ _).drew.trans hb); clear T12 z hb; have T13 := trivial)
    | (have z := T13; go_at_call 9; refine (o_round N1.out G5.out).mono ?_; rw [E6.out.1, E6.out.2]; rintro e w3 ⟨v, rfl, hov, h1, hm⟩; obtain ⟨ga, ca, rfl⟩ := own_nil hov; have y2 := hm.cell y1 (fun c => c.1 (.inl (.inr rfl))); have N2 := Lib.hid (h1.less (F' := fun _ => False) (fun _ c => c.elim)); clear T13 z hov h1 hm))
  all_goals (
    have N := Lib.hid N2.out
    clear N1 N2 y0 y1 y2 CA
    have T14 := trivial
    have E7 : Hid (putE (K [] [] [] [] 0 0 0 0) 2 B1 = 0 ∧ putS (K [] [] [] [] 0 0 0 0) 2 B1 = K [] [B1] [] [] 0 0 0 0) := Lib.hid (k_put2 (by omega) (by omega) (by simp))
    have G6 : Hid (Good (K [] [B1] [] [] 0 0 0 0)) := Lib.hid (E7.out.2 ▸ good_put G5.out _ _)
    have E8 : Hid (putE (K [] [B1] [] [] 0 0 0 0) 2 B2 = 0 ∧ putS (K [] [B1] [] [] 0 0 0 0) 2 B2 = K [] [B1, B2] [] [] 0 0 0 0) := Lib.hid (k_put2 (by omega) (by omega) (by simp))
    have G7 : Hid (Good (K [] [B1, B2] [] [] 0 0 0 0)) := Lib.hid (E8.out.2 ▸ good_put G6.out _ _)
    have E9 : Hid (roundS (K [] [B1, B2] [] [] 0 0 0 0) = K [] [B2] [] [] 0 50 0 0 ∧ roundF (K [] [B1, B2] [] [] 0 0 0 0) = [(2, B1)]) := Lib.hid (by refine ⟨k_round.1.trans ?_, k_round.2.trans ?_⟩ <;> simp [lround, drain, sB1, sB2])
    have G8 : Hid (Good (K [] [B2] [] [] 0 50 0 0)) := Lib.hid (E9.out.1 ▸ good_round G7.out)
    have E10 : Hid (roundS (K [] [B2] [] [] 0 50 0 0) = K [] [] [] [] 0 0 0 0 ∧ roundF (K [] [B2] [] [] 0 50 0 0) = [(2, B2)]) := Lib.hid (by refine ⟨k_round.1.trans ?_, k_round.2.trans ?_⟩ <;> simp [lround, drain, sB2])
    have G9 : Hid (Good (K [] [] [] [] 0 0 0 0)) := Lib.hid (E10.out.1 ▸ good_round G8.out)
    have E11 : Hid (putE (K [] [] [] [] 0 0 0 0) 2 C1 = 0 ∧ putS (K [] [] [] [] 0 0 0 0) 2 C1 = K [] [C1] [] [] 0 0 0 0) := Lib.hid (k_put2 (by omega) (by omega) (by simp))
    have G10 : Hid (Good (K [] [C1] [] [] 0 0 0 0)) := Lib.hid (E11.out.2 ▸ good_put G9.out _ _)
    have E12 : Hid (roundS (K [] [C1] [] [] 0 0 0 0) = K [] [] [] [] 0 0 0 0 ∧ roundF (K [] [C1] [] [] 0 0 0 0) = [(2, C1)]) := Lib.hid (by refine ⟨k_round.1.trans ?_, k_round.2.trans ?_⟩ <;> simp [lround, drain, sC1])
    have G11 : Hid (Good (K [] [] [] [] 0 0 0 0)) := Lib.hid (E12.out.1 ▸ good_round G10.out)
    have E13 : Hid (putE (K [] [] [] [] 0 0 0 0) 2 C2 = 0 ∧ putS (K [] [] [] [] 0 0 0 0) 2 C2 = K [] [C2] [] [] 0 0 0 0) := Lib.hid (k_put2 (by omega) (by omega) (by simp))
    have G12 : Hid (Good (K [] [C2] [] [] 0 0 0 0)) := Lib.hid (E13.out.2 ▸ good_put G11.out _ _)
    have E14 : Hid (roundS (K [] [C2] [] [] 0 0 0 0) = K [] [C2] [] [] 0 80 0 0 ∧ roundF (K [] [C2] [] [] 0 0 0 0) = []) := Lib.hid (by refine ⟨k_round.1.trans ?_, k_round.2.trans ?_⟩ <;> simp [lround, drain, sC2])
    have G13 : Hid (Good (K [] [C2] [] [] 0 80 0 0)) := Lib.hid (E14.out.1 ▸ good_round G12.out)
    have E15 : Hid (roundS (K [] [C2] [] [] 0 80 0 0) = K [] [] [] [] 0 0 0 0 ∧ roundF (K [] [C2] [] [] 0 80 0 0) = [(2, C2)]) := Lib.hid (by refine ⟨k_round.1.trans ?_, k_round.2.trans ?_⟩ <;> simp [lround, drain, sC2])
    have G14 : Hid (Good (K [] [] [] [] 0 0 0 0)) := Lib.hid (E15.out.1 ▸ good_round G13.out)
    have hB1 : ((B1.size : Int) != 30) = false := by rw [sB1]; rfl
    have hB2 : ((B2.size : Int) != 120) = false := by rw [sB2]; rfl
    go_wp2_with (first
      | (have z := T14; go_at_call 12; refine (HB1.out _ 30 (by decide)).mono ?_; rintro e w2 ⟨rfl, hb⟩; have N' := Lib.hid (N.out.below hb); clear N hb; have N := N'; clear N'; clear T14 z; have T15 := trivial)
      | (have z := T15; go_at_call 11; refine (o_put (lk := 2) (b := B1) N.out).mono ?_; rw [E7.out.1, E7.out.2]; rintro e w2 ⟨rfl, h1, hm⟩; clear N hm; have N := Lib.hid h1; clear h1; clear T15 z; have T16 := trivial)
      | (have z := T16; go_at_call 12; refine (HB2.out _ 120 (by decide)).mono ?_; rintro e w2 ⟨rfl, hb⟩; have N' := Lib.hid (N.out.below hb); clear N hb; have N := N'; clear N'; clear T16 z; have T17 := trivial)
      | (have z := T17; go_at_call 11; refine (o_put (lk := 2) (b := B2) N.out).mono ?_; rw [E8.out.1, E8.out.2]; rintro e w2 ⟨rfl, h1, hm⟩; clear N hm; have N := Lib.hid h1; clear h1; clear T17 z; have T18 := trivial)
      | (have z := T18; go_at_call 9; refine (o_round N.out G7.out).mono ?_; rw [E9.out.1, E9.out.2]; rintro e w3 ⟨v, rfl, hov, h1, hm⟩; obtain ⟨g9, cp9, rfl, hcs⟩ := own_cells (n := 1) hov rfl (by omega); have CA : Hid (w3.cell? ⟨g9, 2, none⟩ = some (.string B1)) := Lib.hid (hcs 0 2 _ (by omega) rfl); clear N hm hov hcs; have N := Lib.hid h1; clear h1; clear T18 z; have T19 := trivial)
      | (have z := T19; go_at_call 9; refine (o_round N.out G8.out).mono ?_; rw [E10.out.1, E10.out.2]; rintro e w3 ⟨v, rfl, hov, h1, hm⟩; obtain ⟨g10, cp10, rfl, hcs⟩ := own_cells (n := 1) hov rfl (by omega); have CA' := Lib.hid (hm.cell CA.out (fun c => c.1 (.inr rfl))); clear CA; have CA := CA'; clear CA'; have ca := CA.out; have cb : w3.cell? ⟨g10, 2, none⟩ = some (.string B2) := hcs 0 2 _ (by omega) rfl; clear CA; clear N hm hov hcs; have N := Lib.hid h1; clear h1; clear T19 z; have T20 := trivial)
      | (have z := T20; go_at_call 12; refine (HC1.out _ 10 (by decide)).mono ?_; rintro e w2 ⟨rfl, hb⟩; have N' := Lib.hid (N.out.below hb); clear N hb; have N := N'; clear N'; clear T20 z; have T21 := trivial)
      | (have z := T21; go_at_call 11; refine (o_put (lk := 2) (b := C1) N.out).mono ?_; rw [E11.out.1, E11.out.2]; rintro e w2 ⟨rfl, h1, hm⟩; clear N hm; have N := Lib.hid h1; clear h1; clear T21 z; have T22 := trivial)
      | (have z := T22; go_at_call 9; refine (o_round N.out G10.out).mono ?_; rw [E12.out.1, E12.out.2]; rintro e w3 ⟨v, rfl, hov, h1, hm⟩; obtain ⟨g12, cp12, rfl, hcs⟩ := own_cells (n := 1) hov rfl (by omega); clear N hm hov hcs; have N := Lib.hid h1; clear h1; clear T22 z; have T23 := trivial)
      | (have z := T23; go_at_call 12; refine (HC2.out _ 81 (by decide)).mono ?_; rintro e w2 ⟨rfl, hb⟩; have N' := Lib.hid (N.out.below hb); clear N hb; have N := N'; clear N'; clear T23 z; have T24 := trivial)
      | (have z := T24; go_at_call 11; refine (o_put (lk := 2) (b := C2) N.out).mono ?_; rw [E13.out.1, E13.out.2]; rintro e w2 ⟨rfl, h1, hm⟩; clear N hm; have N := Lib.hid h1; clear h1; clear T24 z; have T25 := trivial)
      | (have z := T25; go_at_call 9; refine (o_round N.out G12.out).mono ?_; rw [E14.out.1, E14.out.2]; rintro e w3 ⟨v, rfl, hov, h1, hm⟩; obtain ⟨g14, cp14, rfl⟩ := own_nil hov; clear N hm hov; have N := Lib.hid h1; clear h1; clear T25 z; have T26 := trivial)
      | (have z := T26; go_at_call 9; refine (o_round N.out G13.out).mono ?_; rw [E15.out.1, E15.out.2]; rintro e w3 ⟨v, rfl, hov, h1, hm⟩; obtain ⟨g15, cp15, rfl, hcs⟩ := own_cells (n := 1) hov rfl (by omega); clear N hm hov hcs; have N := Lib.hid h1; clear h1; clear T26 z; have T27 := trivial))
    have NL := Lib.hid (N.out.less (F' := fun _ => False) (fun _ c => c.elim))
    clear N ca cb
    go_loopg [6] 4 (fun gk v6 wr => ∃ (i : Nat) (l : List BA), i + gk = 4 ∧ v6 = .int .i64 (i : Int) ∧ l.length = i ∧ (∀ b ∈ l, b.size = 200) ∧ One 56 W wr (fun _ => False) p (K [] [] [] l 0 0 0 0) ∧ Good (K [] [] [] l 0 0 0 0))
    case atStart => exact ⟨0, [], by omega, rfl, rfl, by simp, NL.out, G0.out⟩
    case round =>
      obtain ⟨i, l, hik, rfl, hl, hsz, hO, hg⟩ := hrel
      have N := Lib.hid hO
      have GL := Lib.hid hg
      have HSZ := Lib.hid hsz
      clear hO hg hsz
      by_cases hlt : i < 4
      · have hli : (i : Int) < 4 := by omega
        obtain ⟨D, hD⟩ : ∃ D, D = textB 200 i := ⟨_, rfl⟩
        have sD : D.size = 200 := by rw [hD, textB_size]; rfl
        have HD := Lib.hid (fun V => hD ▸ text_any 200 i V (by omega) (by omega))
        have ED := Lib.hid (k_put5 (q0 := []) (q2 := []) (q3 := []) (q5 := l) (c0 := 0) (c2 := 0) (c3 := 0) (c5 := 0) (b := D) (by omega) (by omega) (by omega))
        have GD := Lib.hid (show Good (K [] [] [] (l ++ [D]) 0 0 0 0) from ED.out.2 ▸ good_put GL.out _ _)
        have SD := Lib.hid sD
        have HLL := Lib.hid hl
        clear hD sD hl
        go_wp2_with (first
          | (go_at_call 12; refine (HD.out _).mono ?_; rintro e w2 ⟨rfl, hb⟩; have N1 := Lib.hid (N.out.below hb); clear hb)
          | (go_at_call 11; refine (o_put (lk := 5) (b := D) N1.out).mono ?_; rw [ED.out.1, ED.out.2]; rintro e w2 ⟨rfl, h1, -⟩; have N2 := Lib.hid h1; clear h1))
        go_roundg (gk - 1)
        case measure => omega
        case rel => exact ⟨i + 1, l ++ [D], by omega, by simp, by rw [List.length_append, HLL.out]; rfl, fun b hb => by
          rcases List.mem_append.1 hb with h | h
          · exact HSZ.out b h
          · rw [List.mem_singleton.1 h]; exact SD.out, N2.out, GD.out⟩
      · obtain rfl : i = 4 := by omega
        obtain ⟨d0, d1, d2, d3, rfl⟩ := four hl
        have t0 := HSZ.out d0 (by simp)
        have t1 := HSZ.out d1 (by simp)
        have t2 := HSZ.out d2 (by simp)
        have t3 := HSZ.out d3 (by simp)
        clear HSZ hl NL hlt
        have G15 := Lib.hid GL.out
        have T27 := trivial
        have E16 : Hid (putE (K [] [] [] [d0, d1, d2, d3] 0 0 0 0) 3 Ea = 0 ∧ putS (K [] [] [] [d0, d1, d2, d3] 0 0 0 0) 3 Ea = K [] [] [Ea] [d0, d1, d2, d3] 0 0 0 0) := Lib.hid (k_put3 (by omega) (by omega) (by simp))
        have G16 : Hid (Good (K [] [] [Ea] [d0, d1, d2, d3] 0 0 0 0)) := Lib.hid (E16.out.2 ▸ good_put G15.out _ _)
        have E17 : Hid (roundS (K [] [] [Ea] [d0, d1, d2, d3] 0 0 0 0) = K [] [] [] [d0, d1, d2, d3] 0 0 0 80 ∧ roundF (K [] [] [Ea] [d0, d1, d2, d3] 0 0 0 0) = [(3, Ea)]) := Lib.hid (by refine ⟨k_round.1.trans ?_, k_round.2.trans ?_⟩ <;> simp [lround, drain, t0, t1, t2, t3, sEa])
        have G17 : Hid (Good (K [] [] [] [d0, d1, d2, d3] 0 0 0 80)) := Lib.hid (E17.out.1 ▸ good_round G16.out)
        have E18 : Hid (putE (K [] [] [] [d0, d1, d2, d3] 0 0 0 80) 5 ⟨#[120]⟩ = 7 ∧ putS (K [] [] [] [d0, d1, d2, d3] 0 0 0 80) 5 ⟨#[120]⟩ = K [] [] [] [d0, d1, d2, d3] 0 0 0 80) := Lib.hid (k_full (by decide) (by decide) (by simp))
        have E19 : Hid (putE (K [] [] [] [d0, d1, d2, d3] 0 0 0 80) 6 ⟨#[120]⟩ = 2 ∧ putS (K [] [] [] [d0, d1, d2, d3] 0 0 0 80) 6 ⟨#[120]⟩ = K [] [] [] [d0, d1, d2, d3] 0 0 0 80) := Lib.hid (put_arg (by omega))
        have E20 : Hid (putE (K [] [] [] [d0, d1, d2, d3] 0 0 0 80) (-1) ⟨#[120]⟩ = 2 ∧ putS (K [] [] [] [d0, d1, d2, d3] 0 0 0 80) (-1) ⟨#[120]⟩ = K [] [] [] [d0, d1, d2, d3] 0 0 0 80) := Lib.hid (put_arg (by omega))
        have E21 : Hid (putE (K [] [] [] [d0, d1, d2, d3] 0 0 0 80) 0 ⟨#[]⟩ = 2 ∧ putS (K [] [] [] [d0, d1, d2, d3] 0 0 0 80) 0 ⟨#[]⟩ = K [] [] [] [d0, d1, d2, d3] 0 0 0 80) := Lib.hid (put_arg (.inr (.inr rfl)))
        have E22 : Hid (putE (K [] [] [] [d0, d1, d2, d3] 0 0 0 80) 0 Ga = 3 ∧ putS (K [] [] [] [d0, d1, d2, d3] 0 0 0 80) 0 Ga = K [] [] [] [d0, d1, d2, d3] 0 0 0 80) := Lib.hid (put_long (by omega) (by omega))
        have E23 : Hid (putE (K [] [] [] [d0, d1, d2, d3] 0 0 0 80) 0 Gb = 0 ∧ putS (K [] [] [] [d0, d1, d2, d3] 0 0 0 80) 0 Gb = K [Gb] [] [] [d0, d1, d2, d3] 0 0 0 80) := Lib.hid (k_put0 (by omega) (by omega) (by simp))
        have G18 : Hid (Good (K [Gb] [] [] [d0, d1, d2, d3] 0 0 0 80)) := Lib.hid (E23.out.2 ▸ good_put G17.out _ _)
        have EW5 : Hid (waitsS (K [Gb] [] [] [d0, d1, d2, d3] 0 0 0 80) 5 = 800) := Lib.hid (k_waits5.trans (by simp [bytes, t0, t1, t2, t3]))
        have EW9 : Hid (waitsS (K [Gb] [] [] [d0, d1, d2, d3] 0 0 0 80) 9 = 0) := Lib.hid rfl
        have EWn : Hid (waitsS (K [Gb] [] [] [d0, d1, d2, d3] 0 0 0 80) (-1) = 0) := Lib.hid rfl
        have EL5 : Hid (lenS (K [Gb] [] [] [d0, d1, d2, d3] 0 0 0 80) = 5) := Lib.hid (k_len.trans rfl)
        clear sA1 sA2 sA3 sB1 sB2 sC1 sC2 sEa sGa sGb t0 t1 t2 t3 hB1 hB2 HA1 HA2 HA3 HB1 HB2 HC1 HC2
        go_upto_region 23 with (first
          | (have z := T27; go_at_call 12; refine (HEa.out _ 1 (by decide)).mono ?_; rintro e w2 ⟨rfl, hb⟩; have N' := Lib.hid (N.out.below hb); clear N hb; have N := N'; clear N'; clear T27 z; have T28 := trivial)
          | (have z := T28; go_at_call 11; refine (o_put (lk := 3) (b := Ea) N.out).mono ?_; rw [E16.out.1, E16.out.2]; rintro e w2 ⟨rfl, h1, hm⟩; clear N hm; have N := Lib.hid h1; clear h1; clear T28 z; have T29 := trivial)
          | (have z := T29; go_at_call 9; refine (o_round N.out G16.out).mono ?_; rw [E17.out.1, E17.out.2]; rintro e w3 ⟨v, rfl, hov, h1, hm⟩; obtain ⟨g17, cp17, rfl, hcs⟩ := own_cells (n := 1) hov rfl (by omega); have CE : Hid (w3.cell? ⟨g17, 1, none⟩ = some (.int .i64 3)) := Lib.hid (hcs 0 1 _ (by omega) rfl); clear N hm hov hcs; have N := Lib.hid h1; clear h1; clear T29 z; have T30 := trivial))
        repeat (first
          | (have z := T30; go_at_call 11; refine (o_put (lk := 5) (b := ⟨#[120]⟩) N.out).mono ?_; rw [E18.out.1, E18.out.2]; rintro e w2 ⟨rfl, h1, hm⟩; have CE' := Lib.hid (hm.cell CE.out (fun c => c.1 (.inr rfl))); clear CE; have CE := CE'; clear CE'; clear N hm; have N := Lib.hid h1; clear h1; clear T30 z; have T31 := trivial)
          | (have z := T31; go_at_call 11; refine (o_put (lk := 6) (b := ⟨#[120]⟩) N.out).mono ?_; rw [E19.out.1, E19.out.2]; rintro e w2 ⟨rfl, h1, hm⟩; have CE' := Lib.hid (hm.cell CE.out (fun c => c.1 (.inr rfl))); clear CE; have CE := CE'; clear CE'; clear N hm; have N := Lib.hid h1; clear h1; clear T31 z; have T32 := trivial)
          | (have z := T32; go_at_call 11; refine (o_put (lk := (-1)) (b := ⟨#[120]⟩) N.out).mono ?_; rw [E20.out.1, E20.out.2]; rintro e w2 ⟨rfl, h1, hm⟩; have CE' := Lib.hid (hm.cell CE.out (fun c => c.1 (.inr rfl))); clear CE; have CE := CE'; clear CE'; clear N hm; have N := Lib.hid h1; clear h1; clear T32 z; have T33 := trivial)
          | (have z := T33; go_at_call 11; refine (o_put (lk := 0) (b := ⟨#[]⟩) N.out).mono ?_; rw [E21.out.1, E21.out.2]; rintro e w2 ⟨rfl, h1, hm⟩; have CE' := Lib.hid (hm.cell CE.out (fun c => c.1 (.inr rfl))); clear CE; have CE := CE'; clear CE'; clear N hm; have N := Lib.hid h1; clear h1; clear T33 z; have T34 := trivial)
          | (have z := T34; go_at_call 12; refine (HGa.out _ 8193 (by decide)).mono ?_; rintro e w2 ⟨rfl, hb⟩; have CE' := Lib.hid (keepc CE.out hb); clear CE; have CE := CE'; clear CE'; have N' := Lib.hid (N.out.below hb); clear N hb; have N := N'; clear N'; clear T34 z; have T35 := trivial)
          | (have z := T35; go_at_call 11; refine (o_put (lk := 0) (b := Ga) N.out).mono ?_; rw [E22.out.1, E22.out.2]; rintro e w2 ⟨rfl, h1, hm⟩; have CE' := Lib.hid (hm.cell CE.out (fun c => c.1 (.inr rfl))); clear CE; have CE := CE'; clear CE'; clear N hm; have N := Lib.hid h1; clear h1; clear T35 z; have T36 := trivial)
          | (have z := T36; go_at_call 12; refine (HGb.out _ 8192 (by decide)).mono ?_; rintro e w2 ⟨rfl, hb⟩; have CE' := Lib.hid (keepc CE.out hb); clear CE; have CE := CE'; clear CE'; have N' := Lib.hid (N.out.below hb); clear N hb; have N := N'; clear N'; clear T36 z; have T37 := trivial)
          | (have z := T37; go_at_call 11; refine (o_put (lk := 0) (b := Gb) N.out).mono ?_; rw [E23.out.1, E23.out.2]; rintro e w2 ⟨rfl, h1, hm⟩; have CE' := Lib.hid (hm.cell CE.out (fun c => c.1 (.inr rfl))); clear CE; have CE := CE'; clear CE'; clear N hm; have N := Lib.hid h1; clear h1; have ce := CE.out; clear T37 z; have T38 := trivial)
          | (have z := T38; go_at_call 16; refine (o_waits (lk := 5) N.out G18.out).mono ?_; rw [EW5.out]; rintro e w2 ⟨rfl, rfl⟩; clear T38 z; have T39 := trivial)
          | (have z := T39; go_at_call 16; refine (o_waits (lk := 9) N.out G18.out).mono ?_; rw [EW9.out]; rintro e w2 ⟨rfl, rfl⟩; clear T39 z; have T40 := trivial)
          | (have z := T40; go_at_call 16; refine (o_waits (lk := -1) N.out G18.out).mono ?_; rw [EWn.out]; rintro e w2 ⟨rfl, rfl⟩; clear T40 z; have T41 := trivial)
          | (have z := T41; go_at_call 14; refine (o_len N.out G18.out).mono ?_; rw [EL5.out]; rintro e w2 ⟨rfl, hb⟩; have B1' := Lib.hid (grew_trans N.out.bel hb); clear hb N CE ce; clear T41 z; have T42 := trivial)
          | (have z := T42; go_at_call 11; refine (put_nil _ _ _).mono ?_; rintro e w2 ⟨rfl, rfl⟩; clear T42 z; have T43 := trivial)
          | (have z := T43; go_at_call 9; refine (round_nil _).mono ?_; rintro e w2 ⟨rfl, hb⟩; have B2' := Lib.hid (grew_trans B1'.out hb); clear hb B1'; clear T43 z; have T44 := trivial)
          | (have z := T44; go_at_call 14; refine (len_nil _).mono ?_; rintro e w2 ⟨rfl, rfl⟩; clear T44 z; have T45 := trivial)
          | (have z := T45; go_at_call 16; refine (waits_nil _).mono ?_; rintro e w2 ⟨rfl, rfl⟩; clear T45 z; have T46 := trivial)
          | (have z := T46; go_at_call 18; refine (works_any _).mono ?_; rintro e w2 ⟨rfl, hb⟩; have B3' := Lib.hid (grew_trans B2'.out hb); clear hb B2'; clear T46 z; have T47 := trivial)
                    | (simp only []; go_at_K) | go_values | go_skip | go_guarded | go_step | go_upon | go_back)
        go_ret
        exact retB rfl B3'.out)
end Go.Proofs.Ytkojjnkohnokoaa
