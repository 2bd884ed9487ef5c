/- Any log, joined with any others. -/
import Derived.Test.YthfchmdfoaiibaaLaws
namespace Go.Proofs.Ythfchmdfoaiibaa
open Go.RowKit Go.Joins

/-- the block of what the call owns. -/
theorem own_block {w : World} {base b off n cap : Nat} {es : List Ent} (h : OwnE w base (.slice (some ⟨b, off, none⟩) n cap) es) : off = 0 ∧ base ≤ b ∧ ∃ cur, w.heap[b]? = some (.cells cur 33 (0, 0)) ∧ ∀ i, i < es.length → i * 4 < cur.size := by
  rcases h.2 with ⟨e, _⟩ | ⟨g, c, cur, e, hb, hg, h1, _, h3, _⟩
  · cases e
  · simp at e
    obtain ⟨⟨rfl, rfl⟩, _, rfl⟩ := e
    exact ⟨rfl, hb, cur, hg, fun i hi => by rw [h3]; omega⟩

set_option maxRecDepth 100000 in
set_option maxHeartbeats 2000000 in
theorem lawJoins (a b : Option Addr) (cap capb : Nat) (es fs : List Ent) (prev : Int) (w : World) (h : InE w a cap es) (hf : InE w b capb fs) : Calls Try.prog 4 #[.slice a es.length cap, .int .i64 prev, .slice b fs.length capb] w (RetB true w) := by
  obtain ⟨ES, hES⟩ : ∃ ES, es.take 400 = ES := ⟨_, rfl⟩
  obtain ⟨FS, hFS⟩ : ∃ FS, fs.take 400 = FS := ⟨_, rfl⟩
  have hown := Lib.hid (own_in h ES hES)
  have hownf : Hid (∀ w1, Below w.heap.size w w1 → Calls Try.prog 11 #[.slice b fs.length capb] w1 (OwnPost FS w1)) := fun w1 hb => own_in (hf.below hb) FS hFS
  have hl : Hid (ES.length ≤ 400) := by rw [← hES]; simp [Hid]; omega
  have hlf : Hid (FS.length ≤ 400) := by rw [← hFS]; simp [Hid]; omega
  clear h hf hES hFS
  obtain ⟨J, hJ⟩ : ∃ J, joinL ES prev FS = J := ⟨_, rfl⟩
  have HJ := Lib.hid hJ
  have hJl : Hid (J.length ≤ 800) := by
    rw [Hid, ← hJ, joinL]
    have := hl.out
    have := hlf.out
    split
    · omega
    · split
      · omega
      · simp; omega
  clear hJ
  have T1 := trivial
  go_enter Try.func4, Try.ntmps4
  go_wp2_with (first
    | (have q := T1; go_at_call 11; refine hown.out.mono ?_; intro e w1 hp; obtain ⟨a1, c1, rfl, hs, -, b1⟩ := sl_form hp rfl; have S := Lib.hid hs; have B1 := Lib.hid b1; clear hp hs b1 T1 q; have T2 := trivial)
    | (have q := T2; go_at_call 11; refine (hownf.out _ B1.out).mono ?_; intro e w2 hp; obtain ⟨a2, c2, rfl, hs, -, b2⟩ := sl_form hp rfl; have SF2 := Lib.hid hs; have S2 := Lib.hid (S.out.below b2); have B2 := Lib.hid (grew_trans B1.out b2); clear hp hs b2 T2 q S B1; have T3 := trivial)
    | (have q := T3; go_at_call 11; refine (own_sl_any S2.out hl.out).mono ?_; intro e w3 hp; obtain ⟨a3, c3, rfl, hs, -, b3⟩ := sl_form hp rfl; have K3 := Lib.hid hs; have S3 := Lib.hid (S2.out.below b3); have SF3 := Lib.hid (SF2.out.below b3); have B3 := Lib.hid (grew_trans B2.out b3); clear hp hs b3 T3 q S2 SF2 B2; have T4 := trivial)
    | (have q := T4; go_at_call 11; refine (own_sl_any SF3.out hlf.out).mono ?_; intro e w4 hp; obtain ⟨a4, c4, rfl, hs, -, b4⟩ := sl_form hp rfl; have KF4 := Lib.hid hs; have S4 := Lib.hid (S3.out.below b4); have SF4 := Lib.hid (SF3.out.below b4); have K4 := Lib.hid (K3.out.below b4); have B4 := Lib.hid (grew_trans B3.out b4); clear hp hs b4 T4 q S3 SF3 K3 B3; have T5 := trivial)
    | (have q := T5; go_at_call 17; refine (join_len _ _ _ _ _ _ ES FS prev rfl rfl _ S4.out SF4.out (by have := hl.out; have := hlf.out; omega)).mono ?_; rw [HJ.out]; rintro e w5 ⟨v5, rfl, ho5, b5⟩; obtain ⟨a5, c5, rfl, hs5, hf5⟩ := own_sl ho5; have O5 := Lib.hid ho5; have J5 := Lib.hid hs5; have B5 := Lib.hid b5; clear ho5 hs5 hf5 b5 T5 q; have T6 := trivial)
    | (have q := T6; go_at_call 18; refine (rjoin_len _ _ _ _ _ _ ES FS prev rfl rfl _ (S4.out.below B5.out) (SF4.out.below B5.out) (by have := hl.out; have := hlf.out; omega)).mono ?_; rw [HJ.out]; intro e w6 hp; obtain ⟨a6, c6, rfl, hs6, -, b6⟩ := sl_form hp rfl; have R6 := Lib.hid hs6; have J6 := Lib.hid (J5.out.below b6); have O6 : Hid (OwnE w6 w4.heap.size (.slice a5 J.length c5) J) := own_below O5.out b6; have B6 := Lib.hid (grew_trans B5.out b6); clear hp hs6 b6 T6 q O5 J5 B5; have T7 := trivial)
    | (have q := T7; go_at_call 19; refine (rsame_len J J _ _ _ _ _ _ rfl rfl _ J6.out R6.out true (by simp)).mono ?_; rintro e w7 ⟨rfl, b7⟩; have J7 := Lib.hid (J6.out.below b7); have O7 : Hid (OwnE w7 w4.heap.size (.slice a5 J.length c5) J) := own_below O6.out b7; have B7 := Lib.hid (grew_trans B6.out b7); clear b7 T7 q O6 J6 R6 B6))
  have fin : Hid (∀ wr, Below w4.heap.size w4 wr → Calls Try.prog 19 #[.slice a1 ES.length c1, .slice a3 ES.length c3] wr (RetB true wr) ∧ ∀ wr2, Below wr.heap.size wr wr2 → Calls Try.prog 19 #[.slice a2 FS.length c2, .slice a4 FS.length c4] wr2 (RetB true wr2)) := fun wr hb =>
    ⟨rsame_len ES ES _ _ _ _ _ _ rfl rfl _ (S4.out.below hb) (K4.out.below hb) true (by simp), fun wr2 hb2 => rsame_len FS FS _ _ _ _ _ _ rfl rfl _ (SF4.out.below (grew_trans hb hb2)) (KF4.out.below (grew_trans hb hb2)) true (by simp)⟩
  clear S4 SF4 K4 KF4 hown hownf HJ
  by_cases h0 : J.length = 0
  · go_loopg [11] 0 (fun k v11 wr => v11 = .int .i64 0 ∧ wr = w7)
    case atStart => exact ⟨rfl, rfl⟩
    case round =>
      obtain ⟨rfl, rfl⟩ := hrel
      have h0i : (J.length : Int) ≤ 0 := by omega
      clear h0
      have T8 := trivial
      go_wp2_with (first
        | (have q := T8; go_at_call 19; refine (fin.out _ B7.out).1.mono ?_; rintro e w8 ⟨rfl, b8⟩; have B8 := Lib.hid b8; clear b8 T8 q; have T9 := trivial)
        | (have q := T9; go_at_call 19; refine ((fin.out _ B7.out).2 _ B8.out).mono ?_; rintro e w9 ⟨rfl, b9⟩; have B9 := Lib.hid (grew_trans B8.out b9); clear b9 T9 q B8; have T10 := trivial)
        | (have q := T10; go_at_call 16; refine (works_any _).mono ?_; rintro e w10 ⟨rfl, b10⟩; clear T10 q))
      go_ret
      exact retB rfl (grew_trans B4.out (grew_trans B7.out (grew_trans B9.out b10)))
  · obtain ⟨g, off, rfl, -⟩ := J7.out.ents 0 (by omega)
    obtain ⟨ho, hbg, cur, hcur, hci⟩ := own_block O7.out
    have HO := Lib.hid ho
    clear ho h0
    go_loopg [11] J.length (fun k v11 wr => ∃ i : Nat, i + k = J.length ∧ v11 = .int .i64 (i : Int) ∧ (∃ cur, wr.heap[g]? = some (.cells cur 33 (0, 0)) ∧ ∀ i, i < J.length → i * 4 < cur.size) ∧ Below w4.heap.size w4 wr)
    case atStart => exact ⟨0, by omega, rfl, ⟨cur, hcur, hci⟩, B7.out⟩
    case round =>
      obtain ⟨i, hik, rfl, ⟨cu, hcu, hcz⟩, hB⟩ := hrel
      have HB := Lib.hid hB
      clear hB hcur hci
      have hjl := hJl.out
      by_cases hlt : i < J.length
      · have hz := hcz i hlt
        have c0 : wr.cell? ⟨g, off + i * 4, none⟩ = some (cu[i * 4]'hz) := by
          rw [HO.out, Nat.zero_add]
          exact (cell_of_block hcu (i * 4)).trans (Array.getElem?_eq_getElem hz)
        have f0 : wr.frozen? ⟨g, off + i * 4, none⟩ = false := unfrozen_of_block hcu _
        have HCU := Lib.hid hcu
        have HCZ := Lib.hid hcz
        generalize cu[i * 4]'hz = u at c0
        clear hcu hcz hz
        go_wp2
        go_roundg (gk - 1)
        case measure => omega
        case rel => exact ⟨i + 1, by omega, by simp, ⟨_, block_setCell HCU.out _, fun j hj => by simpa using HCZ.out j hj⟩, HB.out.setCell (p := ⟨g, off + i * 4, none⟩) hbg _⟩
      · clear hcu hcz
        have T8 := trivial
        go_wp2_with (first
          | (have q := T8; go_at_call 19; refine (fin.out _ HB.out).1.mono ?_; rintro e w8 ⟨rfl, b8⟩; have B8 := Lib.hid b8; clear b8 T8 q; have T9 := trivial)
          | (have q := T9; go_at_call 19; refine ((fin.out _ HB.out).2 _ B8.out).mono ?_; rintro e w9 ⟨rfl, b9⟩; have B9 := Lib.hid (grew_trans B8.out b9); clear b9 T9 q B8; have T10 := trivial)
          | (have q := T10; go_at_call 16; refine (works_any _).mono ?_; rintro e w10 ⟨rfl, b10⟩; clear T10 q))
        go_ret
        exact retB rfl (grew_trans B4.out (grew_trans HB.out (grew_trans B9.out b10)))
end Go.Proofs.Ythfchmdfoaiibaa
