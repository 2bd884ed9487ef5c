/- The walks of the laws' own 'works', and of the closed law TreeKnown: written by wip/Tree/gen.py. -/
import Derived.Test.YtbmnaimbognohaaNew
namespace Go.Proofs.Ytbmnaimbognohaa
open Go.RowKit Go.Joins

theorem Tr.lt {w : World} {g r cap : Nat} {t : T} (h : Tr w g r cap t) (hp : 0 < (rowL t.me).length) : g < w.heap.size ∧ r < w.heap.size :=
  ⟨(Array.getElem?_eq_some_iff.1 h.1).1, World.block_lt_of_cell? _ _ (h.2.1 0 hp)⟩

theorem hear_nil (src clock : Int) (w : World) : Calls Try.prog 10 #[.pointer none, .int .i64 src, .int .i64 clock] w fun e w' => e = .returned (.tuple #[]) ∧ ∃ n, w' = w.drewN n := by
  go_enter Try.func10, Try.ntmps10
  go_wp2_with fail
  go_quiet (fail)
  go_wp2
  go_end0
  exact ⟨rfl, _, rfl⟩
theorem tick_nil (head : Int) (behind : Bool) (clock : Int) (w : World) : Calls Try.prog 12 #[.pointer none, .int .i64 head, .bool behind, .int .i64 clock] w fun e w' => e = .returned (.tuple #[]) ∧ w' = w := by
  go_enter Try.func12, Try.ntmps12
  go_wp2_with fail
  go_end0
  exact ⟨rfl, rfl⟩
theorem above_nil (head : Int) (behind : Bool) (w : World) : Calls Try.prog 14 #[.pointer none, .int .i64 head, .bool behind] w fun e w' => e = .returned (.int .i64 (-1)) ∧ w' = w := by
  go_enter Try.func14, Try.ntmps14
  go_wp2_with fail
  go_ret
  exact ⟨rfl, rfl⟩

set_option maxRecDepth 100000 in
set_option maxHeartbeats 4000000 in
theorem works_any (W0 : World) : Calls Try.prog 9 #[] W0 (RetB true W0) := by
  have hb0 : Below W0.heap.size W0 W0 := Below.refl _ _
  have hB := Lib.hid hb0; clear hb0
  go_enter Try.func9, Try.ntmps9
  go_wp2_with fail
  refine (new_any 4 0 _ (by decide)).mono ?_
  rintro e w1 ⟨gt, rt, ct, rfl, ht, hn, hgt, hrt⟩
  have hm : Mod (fun _ => False) W0 w1 := Mod.of_below hn (Nat.le_refl _) _
  have Ht := Lib.hid ht; clear ht
  have hb : Below W0.heap.size W0 w1 := hB.out.trans (hm.below (B := W0.heap.size) hB.out.size (fun _ h => h.elim))
  have hwt := hB.out.size
  replace hgt : W0.heap.size ≤ gt := by omega
  replace hrt : W0.heap.size ≤ rt := by omega
  clear hwt hn
  clear hB hm
  have hB := Lib.hid hb; clear hb
  go_wp2_with fail
  refine (above_any gt rt ct ⟨4, 0, 0⟩ 1 false _ Ht.out ⟨by decide, by decide, by decide, by decide⟩).mono ?_
  rintro e w2 ⟨rfl, hq⟩
  have hm : Mod (fun _ => False) w1 w2 := by obtain ⟨q, rfl⟩ := hq; exact Mod.drewN _ _
  clear hq
  rw [show T.above ⟨4, 0, 0⟩ 1 false = 3 from rfl]
  have ht := Ht.out.mod hm (fun h => h) (fun h => h)
  clear Ht
  have Ht := Lib.hid ht; clear ht
  have hb : Below W0.heap.size W0 w2 := hB.out.trans (hm.below (B := W0.heap.size) hB.out.size (fun _ h => h.elim))
  clear hB hm
  have hB := Lib.hid hb; clear hb
  go_wp2_with fail
  refine (tick_any gt rt ct ⟨4, 0, 0⟩ 1 false 15 _ Ht.out ⟨by decide, by decide, by decide, by decide⟩ (by decide) (by decide)).mono ?_
  rintro e w3 ⟨rfl, ht, hm⟩
  rw [show T.tick ⟨4, 0, 0⟩ 1 false 15 = ⟨4, 1, 15⟩ from rfl] at ht
  clear Ht
  have Ht := Lib.hid ht; clear ht
  have hb : Below W0.heap.size W0 w3 := hB.out.trans (hm.below (B := W0.heap.size) hB.out.size (by intro k hk; omega))
  clear hB hm
  have hB := Lib.hid hb; clear hb
  go_wp2_with fail
  refine (above_any gt rt ct ⟨4, 1, 15⟩ 1 false _ Ht.out ⟨by decide, by decide, by decide, by decide⟩).mono ?_
  rintro e w4 ⟨rfl, hq⟩
  have hm : Mod (fun _ => False) w3 w4 := by obtain ⟨q, rfl⟩ := hq; exact Mod.drewN _ _
  clear hq
  rw [show T.above ⟨4, 1, 15⟩ 1 false = 2 from rfl]
  have ht := Ht.out.mod hm (fun h => h) (fun h => h)
  clear Ht
  have Ht := Lib.hid ht; clear ht
  have hb : Below W0.heap.size W0 w4 := hB.out.trans (hm.below (B := W0.heap.size) hB.out.size (fun _ h => h.elim))
  clear hB hm
  have hB := Lib.hid hb; clear hb
  go_wp2_with fail
  refine (tick_any gt rt ct ⟨4, 1, 15⟩ 1 false 30 _ Ht.out ⟨by decide, by decide, by decide, by decide⟩ (by decide) (by decide)).mono ?_
  rintro e w5 ⟨rfl, ht, hm⟩
  rw [show T.tick ⟨4, 1, 15⟩ 1 false 30 = ⟨4, 2, 30⟩ from rfl] at ht
  clear Ht
  have Ht := Lib.hid ht; clear ht
  have hb : Below W0.heap.size W0 w5 := hB.out.trans (hm.below (B := W0.heap.size) hB.out.size (by intro k hk; omega))
  clear hB hm
  have hB := Lib.hid hb; clear hb
  go_wp2_with fail
  refine (tick_any gt rt ct ⟨4, 2, 30⟩ 1 false 45 _ Ht.out ⟨by decide, by decide, by decide, by decide⟩ (by decide) (by decide)).mono ?_
  rintro e w6 ⟨rfl, ht, hm⟩
  rw [show T.tick ⟨4, 2, 30⟩ 1 false 45 = ⟨4, 3, 45⟩ from rfl] at ht
  clear Ht
  have Ht := Lib.hid ht; clear ht
  have hb : Below W0.heap.size W0 w6 := hB.out.trans (hm.below (B := W0.heap.size) hB.out.size (by intro k hk; omega))
  clear hB hm
  have hB := Lib.hid hb; clear hb
  go_wp2_with fail
  refine (tick_any gt rt ct ⟨4, 3, 45⟩ 1 false 60 _ Ht.out ⟨by decide, by decide, by decide, by decide⟩ (by decide) (by decide)).mono ?_
  rintro e w7 ⟨rfl, ht, hm⟩
  rw [show T.tick ⟨4, 3, 45⟩ 1 false 60 = ⟨4, 0, 60⟩ from rfl] at ht
  clear Ht
  have Ht := Lib.hid ht; clear ht
  have hb : Below W0.heap.size W0 w7 := hB.out.trans (hm.below (B := W0.heap.size) hB.out.size (by intro k hk; omega))
  clear hB hm
  have hB := Lib.hid hb; clear hb
  go_wp2_with fail
  refine (above_any gt rt ct ⟨4, 0, 60⟩ 1 false _ Ht.out ⟨by decide, by decide, by decide, by decide⟩).mono ?_
  rintro e w8 ⟨rfl, hq⟩
  have hm : Mod (fun _ => False) w7 w8 := by obtain ⟨q, rfl⟩ := hq; exact Mod.drewN _ _
  clear hq
  rw [show T.above ⟨4, 0, 60⟩ 1 false = 3 from rfl]
  have ht := Ht.out.mod hm (fun h => h) (fun h => h)
  clear Ht
  have Ht := Lib.hid ht; clear ht
  have hb : Below W0.heap.size W0 w8 := hB.out.trans (hm.below (B := W0.heap.size) hB.out.size (fun _ h => h.elim))
  clear hB hm
  have hB := Lib.hid hb; clear hb
  go_wp2_with fail
  have lt := Ht.out.lt (by decide)
  refine (new_any 4 0 _ (by decide)).mono ?_
  rintro e w9 ⟨gu, ru, cu, rfl, hu, hn, hgu, hru⟩
  have ngut : gu ≠ gt ∧ gu ≠ rt ∧ ru ≠ gt ∧ ru ≠ rt := by omega
  have hm : Mod (fun _ => False) w8 w9 := Mod.of_below hn (Nat.le_refl _) _
  have ht := Ht.out.mod hm (fun h => h) (fun h => h)
  clear Ht
  have Ht := Lib.hid ht; clear ht
  have Hu := Lib.hid hu; clear hu
  have hb : Below W0.heap.size W0 w9 := hB.out.trans (hm.below (B := W0.heap.size) hB.out.size (fun _ h => h.elim))
  have hwu := hB.out.size
  replace hgu : W0.heap.size ≤ gu := by omega
  replace hru : W0.heap.size ≤ ru := by omega
  clear hwu hn lt
  clear hB hm
  have hB := Lib.hid hb; clear hb
  go_wp2_with fail
  refine (hear_any gu ru cu ⟨4, 0, 0⟩ 3 10 _ Hu.out ⟨by decide, by decide, by decide, by decide⟩).mono ?_
  rintro e w10 ⟨rfl, hu, hm⟩
  rw [show T.hear ⟨4, 0, 0⟩ 3 10 = ⟨4, 0, 10⟩ from rfl] at hu
  have ht := Ht.out.mod hm (by show ¬ (_ = _); omega) (by show ¬ (_ = _); omega)
  clear Ht
  clear Hu
  have Ht := Lib.hid ht; clear ht
  have Hu := Lib.hid hu; clear hu
  have hb : Below W0.heap.size W0 w10 := hB.out.trans (hm.below (B := W0.heap.size) hB.out.size (by intro k hk; omega))
  clear hB hm
  have hB := Lib.hid hb; clear hb
  go_wp2_with fail
  refine (tick_any gu ru cu ⟨4, 0, 10⟩ 1 false 20 _ Hu.out ⟨by decide, by decide, by decide, by decide⟩ (by decide) (by decide)).mono ?_
  rintro e w11 ⟨rfl, hu, hm⟩
  rw [show T.tick ⟨4, 0, 10⟩ 1 false 20 = ⟨4, 0, 10⟩ from rfl] at hu
  have ht := Ht.out.mod hm (by show ¬ (_ = _); omega) (by show ¬ (_ = _); omega)
  clear Ht
  clear Hu
  have Ht := Lib.hid ht; clear ht
  have Hu := Lib.hid hu; clear hu
  have hb : Below W0.heap.size W0 w11 := hB.out.trans (hm.below (B := W0.heap.size) hB.out.size (by intro k hk; omega))
  clear hB hm
  have hB := Lib.hid hb; clear hb
  go_wp2_with fail
  refine (above_any gu ru cu ⟨4, 0, 10⟩ 1 false _ Hu.out ⟨by decide, by decide, by decide, by decide⟩).mono ?_
  rintro e w12 ⟨rfl, hq⟩
  have hm : Mod (fun _ => False) w11 w12 := by obtain ⟨q, rfl⟩ := hq; exact Mod.drewN _ _
  clear hq
  rw [show T.above ⟨4, 0, 10⟩ 1 false = 3 from rfl]
  have ht := Ht.out.mod hm (fun h => h) (fun h => h)
  have hu := Hu.out.mod hm (fun h => h) (fun h => h)
  clear Ht
  clear Hu
  have Ht := Lib.hid ht; clear ht
  have Hu := Lib.hid hu; clear hu
  have hb : Below W0.heap.size W0 w12 := hB.out.trans (hm.below (B := W0.heap.size) hB.out.size (fun _ h => h.elim))
  clear hB hm
  have hB := Lib.hid hb; clear hb
  go_wp2_with fail
  refine (tick_any gu ru cu ⟨4, 0, 10⟩ 1 false 25 _ Hu.out ⟨by decide, by decide, by decide, by decide⟩ (by decide) (by decide)).mono ?_
  rintro e w13 ⟨rfl, hu, hm⟩
  rw [show T.tick ⟨4, 0, 10⟩ 1 false 25 = ⟨4, 1, 25⟩ from rfl] at hu
  have ht := Ht.out.mod hm (by show ¬ (_ = _); omega) (by show ¬ (_ = _); omega)
  clear Ht
  clear Hu
  have Ht := Lib.hid ht; clear ht
  have Hu := Lib.hid hu; clear hu
  have hb : Below W0.heap.size W0 w13 := hB.out.trans (hm.below (B := W0.heap.size) hB.out.size (by intro k hk; omega))
  clear hB hm
  have hB := Lib.hid hb; clear hb
  go_wp2_with fail
  have lt := Ht.out.lt (by decide)
  have lu := Hu.out.lt (by decide)
  refine (new_any 1 0 _ (by decide)).mono ?_
  rintro e w14 ⟨gv, rv, cv, rfl, hv, hn, hgv, hrv⟩
  have ngvt : gv ≠ gt ∧ gv ≠ rt ∧ rv ≠ gt ∧ rv ≠ rt := by omega
  have ngvu : gv ≠ gu ∧ gv ≠ ru ∧ rv ≠ gu ∧ rv ≠ ru := by omega
  have hm : Mod (fun _ => False) w13 w14 := Mod.of_below hn (Nat.le_refl _) _
  have ht := Ht.out.mod hm (fun h => h) (fun h => h)
  have hu := Hu.out.mod hm (fun h => h) (fun h => h)
  clear Ht
  clear Hu
  have Ht := Lib.hid ht; clear ht
  have Hu := Lib.hid hu; clear hu
  have Hv := Lib.hid hv; clear hv
  have hb : Below W0.heap.size W0 w14 := hB.out.trans (hm.below (B := W0.heap.size) hB.out.size (fun _ h => h.elim))
  have hwv := hB.out.size
  replace hgv : W0.heap.size ≤ gv := by omega
  replace hrv : W0.heap.size ≤ rv := by omega
  clear hwv hn lt lu
  clear hB hm
  have hB := Lib.hid hb; clear hb
  go_wp2_with fail
  refine (above_any gu ru cu ⟨4, 1, 25⟩ 1 false _ Hu.out ⟨by decide, by decide, by decide, by decide⟩).mono ?_
  rintro e w15 ⟨rfl, hq⟩
  have hm : Mod (fun _ => False) w14 w15 := by obtain ⟨q, rfl⟩ := hq; exact Mod.drewN _ _
  clear hq
  rw [show T.above ⟨4, 1, 25⟩ 1 false = 2 from rfl]
  have ht := Ht.out.mod hm (fun h => h) (fun h => h)
  have hu := Hu.out.mod hm (fun h => h) (fun h => h)
  have hv := Hv.out.mod hm (fun h => h) (fun h => h)
  clear Ht
  clear Hu
  clear Hv
  have Ht := Lib.hid ht; clear ht
  have Hu := Lib.hid hu; clear hu
  have Hv := Lib.hid hv; clear hv
  have hb : Below W0.heap.size W0 w15 := hB.out.trans (hm.below (B := W0.heap.size) hB.out.size (fun _ h => h.elim))
  clear hB hm
  have hB := Lib.hid hb; clear hb
  go_wp2_with fail
  refine (above_any gv rv cv ⟨1, 0, 0⟩ 0 true _ Hv.out ⟨by decide, by decide, by decide, by decide⟩).mono ?_
  rintro e w16 ⟨rfl, hq⟩
  have hm : Mod (fun _ => False) w15 w16 := by obtain ⟨q, rfl⟩ := hq; exact Mod.drewN _ _
  clear hq
  rw [show T.above ⟨1, 0, 0⟩ 0 true = 0 from rfl]
  have ht := Ht.out.mod hm (fun h => h) (fun h => h)
  have hu := Hu.out.mod hm (fun h => h) (fun h => h)
  have hv := Hv.out.mod hm (fun h => h) (fun h => h)
  clear Ht
  clear Hu
  clear Hv
  have Ht := Lib.hid ht; clear ht
  have Hu := Lib.hid hu; clear hu
  have Hv := Lib.hid hv; clear hv
  have hb : Below W0.heap.size W0 w16 := hB.out.trans (hm.below (B := W0.heap.size) hB.out.size (fun _ h => h.elim))
  clear hB hm
  have hB := Lib.hid hb; clear hb
  go_wp2_with fail
  refine (above_any gv rv cv ⟨1, 0, 0⟩ 1 false _ Hv.out ⟨by decide, by decide, by decide, by decide⟩).mono ?_
  rintro e w17 ⟨rfl, hq⟩
  have hm : Mod (fun _ => False) w16 w17 := by obtain ⟨q, rfl⟩ := hq; exact Mod.drewN _ _
  clear hq
  rw [show T.above ⟨1, 0, 0⟩ 1 false = (-1) from rfl]
  have ht := Ht.out.mod hm (fun h => h) (fun h => h)
  have hu := Hu.out.mod hm (fun h => h) (fun h => h)
  have hv := Hv.out.mod hm (fun h => h) (fun h => h)
  clear Ht
  clear Hu
  clear Hv
  have Ht := Lib.hid ht; clear ht
  have Hu := Lib.hid hu; clear hu
  have Hv := Lib.hid hv; clear hv
  have hb : Below W0.heap.size W0 w17 := hB.out.trans (hm.below (B := W0.heap.size) hB.out.size (fun _ h => h.elim))
  clear hB hm
  have hB := Lib.hid hb; clear hb
  go_wp2_with fail
  refine (above_any gv rv cv ⟨1, 0, 0⟩ 1 true _ Hv.out ⟨by decide, by decide, by decide, by decide⟩).mono ?_
  rintro e w18 ⟨rfl, hq⟩
  have hm : Mod (fun _ => False) w17 w18 := by obtain ⟨q, rfl⟩ := hq; exact Mod.drewN _ _
  clear hq
  rw [show T.above ⟨1, 0, 0⟩ 1 true = 0 from rfl]
  have ht := Ht.out.mod hm (fun h => h) (fun h => h)
  have hu := Hu.out.mod hm (fun h => h) (fun h => h)
  have hv := Hv.out.mod hm (fun h => h) (fun h => h)
  clear Ht
  clear Hu
  clear Hv
  have Ht := Lib.hid ht; clear ht
  have Hu := Lib.hid hu; clear hu
  have Hv := Lib.hid hv; clear hv
  have hb : Below W0.heap.size W0 w18 := hB.out.trans (hm.below (B := W0.heap.size) hB.out.size (fun _ h => h.elim))
  clear hB hm
  have hB := Lib.hid hb; clear hb
  go_wp2_with fail
  refine (above_any gv rv cv ⟨1, 0, 0⟩ (-1) true _ Hv.out ⟨by decide, by decide, by decide, by decide⟩).mono ?_
  rintro e w19 ⟨rfl, hq⟩
  have hm : Mod (fun _ => False) w18 w19 := by obtain ⟨q, rfl⟩ := hq; exact Mod.drewN _ _
  clear hq
  rw [show T.above ⟨1, 0, 0⟩ (-1) true = (-1) from rfl]
  have ht := Ht.out.mod hm (fun h => h) (fun h => h)
  have hu := Hu.out.mod hm (fun h => h) (fun h => h)
  have hv := Hv.out.mod hm (fun h => h) (fun h => h)
  clear Ht
  clear Hu
  clear Hv
  have Ht := Lib.hid ht; clear ht
  have Hu := Lib.hid hu; clear hu
  have Hv := Lib.hid hv; clear hv
  have hb : Below W0.heap.size W0 w19 := hB.out.trans (hm.below (B := W0.heap.size) hB.out.size (fun _ h => h.elim))
  clear hB hm
  have hB := Lib.hid hb; clear hb
  go_wp2_with fail
  refine (above_any gv rv cv ⟨1, 0, 0⟩ 4 true _ Hv.out ⟨by decide, by decide, by decide, by decide⟩).mono ?_
  rintro e w20 ⟨rfl, hq⟩
  have hm : Mod (fun _ => False) w19 w20 := by obtain ⟨q, rfl⟩ := hq; exact Mod.drewN _ _
  clear hq
  rw [show T.above ⟨1, 0, 0⟩ 4 true = (-1) from rfl]
  have ht := Ht.out.mod hm (fun h => h) (fun h => h)
  have hu := Hu.out.mod hm (fun h => h) (fun h => h)
  have hv := Hv.out.mod hm (fun h => h) (fun h => h)
  clear Ht
  clear Hu
  clear Hv
  have Ht := Lib.hid ht; clear ht
  have Hu := Lib.hid hu; clear hu
  have Hv := Lib.hid hv; clear hv
  have hb : Below W0.heap.size W0 w20 := hB.out.trans (hm.below (B := W0.heap.size) hB.out.size (fun _ h => h.elim))
  clear hB hm
  have hB := Lib.hid hb; clear hb
  go_wp2_with fail
  go_ret
  exact retB rfl hB.out

set_option maxRecDepth 100000 in
set_option maxHeartbeats 4000000 in
theorem lawKnown (W0 : World) : Calls Try.prog 6 #[] W0 (RetB true W0) := by
  have hb0 : Below W0.heap.size W0 W0 := Below.refl _ _
  have hB := Lib.hid hb0; clear hb0
  go_enter Try.func6, Try.ntmps6
  go_wp2_with fail
  refine (new_any 1 0 _ (by decide)).mono ?_
  rintro e w1 ⟨gv, rv, cv, rfl, hv, hn, hgv, hrv⟩
  have hm : Mod (fun _ => False) W0 w1 := Mod.of_below hn (Nat.le_refl _) _
  have Hv := Lib.hid hv; clear hv
  have hb : Below W0.heap.size W0 w1 := hB.out.trans (hm.below (B := W0.heap.size) hB.out.size (fun _ h => h.elim))
  have hwv := hB.out.size
  replace hgv : W0.heap.size ≤ gv := by omega
  replace hrv : W0.heap.size ≤ rv := by omega
  clear hwv hn
  clear hB hm
  have hB := Lib.hid hb; clear hb
  go_wp2_with fail
  refine (tick_any gv rv cv ⟨1, 0, 0⟩ 1 true 15 _ Hv.out ⟨by decide, by decide, by decide, by decide⟩ (by decide) (by decide)).mono ?_
  rintro e w2 ⟨rfl, hv, hm⟩
  rw [show T.tick ⟨1, 0, 0⟩ 1 true 15 = ⟨1, 1, 15⟩ from rfl] at hv
  clear Hv
  have Hv := Lib.hid hv; clear hv
  have hb : Below W0.heap.size W0 w2 := hB.out.trans (hm.below (B := W0.heap.size) hB.out.size (by intro k hk; omega))
  clear hB hm
  have hB := Lib.hid hb; clear hb
  go_wp2_with fail
  refine (above_any gv rv cv ⟨1, 1, 15⟩ 1 true _ Hv.out ⟨by decide, by decide, by decide, by decide⟩).mono ?_
  rintro e w3 ⟨rfl, hq⟩
  have hm : Mod (fun _ => False) w2 w3 := by obtain ⟨q, rfl⟩ := hq; exact Mod.drewN _ _
  clear hq
  rw [show T.above ⟨1, 1, 15⟩ 1 true = 2 from rfl]
  have hv := Hv.out.mod hm (fun h => h) (fun h => h)
  clear Hv
  have Hv := Lib.hid hv; clear hv
  have hb : Below W0.heap.size W0 w3 := hB.out.trans (hm.below (B := W0.heap.size) hB.out.size (fun _ h => h.elim))
  clear hB hm
  have hB := Lib.hid hb; clear hb
  go_wp2_with fail
  refine (tick_any gv rv cv ⟨1, 1, 15⟩ 1 true 30 _ Hv.out ⟨by decide, by decide, by decide, by decide⟩ (by decide) (by decide)).mono ?_
  rintro e w4 ⟨rfl, hv, hm⟩
  rw [show T.tick ⟨1, 1, 15⟩ 1 true 30 = ⟨1, 0, 30⟩ from rfl] at hv
  clear Hv
  have Hv := Lib.hid hv; clear hv
  have hb : Below W0.heap.size W0 w4 := hB.out.trans (hm.below (B := W0.heap.size) hB.out.size (by intro k hk; omega))
  clear hB hm
  have hB := Lib.hid hb; clear hb
  go_wp2_with fail
  refine (above_any gv rv cv ⟨1, 0, 30⟩ 1 true _ Hv.out ⟨by decide, by decide, by decide, by decide⟩).mono ?_
  rintro e w5 ⟨rfl, hq⟩
  have hm : Mod (fun _ => False) w4 w5 := by obtain ⟨q, rfl⟩ := hq; exact Mod.drewN _ _
  clear hq
  rw [show T.above ⟨1, 0, 30⟩ 1 true = 0 from rfl]
  have hv := Hv.out.mod hm (fun h => h) (fun h => h)
  clear Hv
  have Hv := Lib.hid hv; clear hv
  have hb : Below W0.heap.size W0 w5 := hB.out.trans (hm.below (B := W0.heap.size) hB.out.size (fun _ h => h.elim))
  clear hB hm
  have hB := Lib.hid hb; clear hb
  go_wp2_with fail
  refine (tick_any gv rv cv ⟨1, 0, 30⟩ 0 true 100 _ Hv.out ⟨by decide, by decide, by decide, by decide⟩ (by decide) (by decide)).mono ?_
  rintro e w6 ⟨rfl, hv, hm⟩
  rw [show T.tick ⟨1, 0, 30⟩ 0 true 100 = ⟨1, 0, 100⟩ from rfl] at hv
  clear Hv
  have Hv := Lib.hid hv; clear hv
  have hb : Below W0.heap.size W0 w6 := hB.out.trans (hm.below (B := W0.heap.size) hB.out.size (by intro k hk; omega))
  clear hB hm
  have hB := Lib.hid hb; clear hb
  go_wp2_with fail
  refine (tick_any gv rv cv ⟨1, 0, 100⟩ 1 true 114 _ Hv.out ⟨by decide, by decide, by decide, by decide⟩ (by decide) (by decide)).mono ?_
  rintro e w7 ⟨rfl, hv, hm⟩
  rw [show T.tick ⟨1, 0, 100⟩ 1 true 114 = ⟨1, 0, 100⟩ from rfl] at hv
  clear Hv
  have Hv := Lib.hid hv; clear hv
  have hb : Below W0.heap.size W0 w7 := hB.out.trans (hm.below (B := W0.heap.size) hB.out.size (by intro k hk; omega))
  clear hB hm
  have hB := Lib.hid hb; clear hb
  go_wp2_with fail
  refine (above_any gv rv cv ⟨1, 0, 100⟩ 1 true _ Hv.out ⟨by decide, by decide, by decide, by decide⟩).mono ?_
  rintro e w8 ⟨rfl, hq⟩
  have hm : Mod (fun _ => False) w7 w8 := by obtain ⟨q, rfl⟩ := hq; exact Mod.drewN _ _
  clear hq
  rw [show T.above ⟨1, 0, 100⟩ 1 true = 0 from rfl]
  have hv := Hv.out.mod hm (fun h => h) (fun h => h)
  clear Hv
  have Hv := Lib.hid hv; clear hv
  have hb : Below W0.heap.size W0 w8 := hB.out.trans (hm.below (B := W0.heap.size) hB.out.size (fun _ h => h.elim))
  clear hB hm
  have hB := Lib.hid hb; clear hb
  go_wp2_with fail
  refine (tick_any gv rv cv ⟨1, 0, 100⟩ 1 true 115 _ Hv.out ⟨by decide, by decide, by decide, by decide⟩ (by decide) (by decide)).mono ?_
  rintro e w9 ⟨rfl, hv, hm⟩
  rw [show T.tick ⟨1, 0, 100⟩ 1 true 115 = ⟨1, 1, 115⟩ from rfl] at hv
  clear Hv
  have Hv := Lib.hid hv; clear hv
  have hb : Below W0.heap.size W0 w9 := hB.out.trans (hm.below (B := W0.heap.size) hB.out.size (by intro k hk; omega))
  clear hB hm
  have hB := Lib.hid hb; clear hb
  go_wp2_with fail
  refine (above_any gv rv cv ⟨1, 1, 115⟩ 1 true _ Hv.out ⟨by decide, by decide, by decide, by decide⟩).mono ?_
  rintro e w10 ⟨rfl, hq⟩
  have hm : Mod (fun _ => False) w9 w10 := by obtain ⟨q, rfl⟩ := hq; exact Mod.drewN _ _
  clear hq
  rw [show T.above ⟨1, 1, 115⟩ 1 true = 2 from rfl]
  have hv := Hv.out.mod hm (fun h => h) (fun h => h)
  clear Hv
  have Hv := Lib.hid hv; clear hv
  have hb : Below W0.heap.size W0 w10 := hB.out.trans (hm.below (B := W0.heap.size) hB.out.size (fun _ h => h.elim))
  clear hB hm
  have hB := Lib.hid hb; clear hb
  go_wp2_with fail
  have lv := Hv.out.lt (by decide)
  refine (new_any 3 (-9223372036854775808) _ (by decide)).mono ?_
  rintro e w11 ⟨gz, rz, cz, rfl, hz, hn, hgz, hrz⟩
  have ngzv : gz ≠ gv ∧ gz ≠ rv ∧ rz ≠ gv ∧ rz ≠ rv := by omega
  have hm : Mod (fun _ => False) w10 w11 := Mod.of_below hn (Nat.le_refl _) _
  have hv := Hv.out.mod hm (fun h => h) (fun h => h)
  clear Hv
  have Hv := Lib.hid hv; clear hv
  have Hz := Lib.hid hz; clear hz
  have hb : Below W0.heap.size W0 w11 := hB.out.trans (hm.below (B := W0.heap.size) hB.out.size (fun _ h => h.elim))
  have hwz := hB.out.size
  replace hgz : W0.heap.size ≤ gz := by omega
  replace hrz : W0.heap.size ≤ rz := by omega
  clear hwz hn lv
  clear hB hm
  have hB := Lib.hid hb; clear hb
  go_wp2_with fail
  refine (tick_any gz rz cz ⟨3, 0, -9223372036854775808⟩ 0 false 9223372036854775807 _ Hz.out ⟨by decide, by decide, by decide, by decide⟩ (by decide) (by decide)).mono ?_
  rintro e w12 ⟨rfl, hz, hm⟩
  rw [show T.tick ⟨3, 0, -9223372036854775808⟩ 0 false 9223372036854775807 = ⟨3, 1, 9223372036854775807⟩ from rfl] at hz
  have hv := Hv.out.mod hm (by show ¬ (_ = _); omega) (by show ¬ (_ = _); omega)
  clear Hv
  clear Hz
  have Hv := Lib.hid hv; clear hv
  have Hz := Lib.hid hz; clear hz
  have hb : Below W0.heap.size W0 w12 := hB.out.trans (hm.below (B := W0.heap.size) hB.out.size (by intro k hk; omega))
  clear hB hm
  have hB := Lib.hid hb; clear hb
  go_wp2_with fail
  refine (above_any gz rz cz ⟨3, 1, 9223372036854775807⟩ 0 false _ Hz.out ⟨by decide, by decide, by decide, by decide⟩).mono ?_
  rintro e w13 ⟨rfl, hq⟩
  have hm : Mod (fun _ => False) w12 w13 := by obtain ⟨q, rfl⟩ := hq; exact Mod.drewN _ _
  clear hq
  rw [show T.above ⟨3, 1, 9223372036854775807⟩ 0 false = 1 from rfl]
  have hv := Hv.out.mod hm (fun h => h) (fun h => h)
  have hz := Hz.out.mod hm (fun h => h) (fun h => h)
  clear Hv
  clear Hz
  have Hv := Lib.hid hv; clear hv
  have Hz := Lib.hid hz; clear hz
  have hb : Below W0.heap.size W0 w13 := hB.out.trans (hm.below (B := W0.heap.size) hB.out.size (fun _ h => h.elim))
  clear hB hm
  have hB := Lib.hid hb; clear hb
  go_wp2_with fail
  refine (tick_any gz rz cz ⟨3, 1, 9223372036854775807⟩ 0 false (-9223372036854775808) _ Hz.out ⟨by decide, by decide, by decide, by decide⟩ (by decide) (by decide)).mono ?_
  rintro e w14 ⟨rfl, hz, hm⟩
  rw [show T.tick ⟨3, 1, 9223372036854775807⟩ 0 false (-9223372036854775808) = ⟨3, 1, 9223372036854775807⟩ from rfl] at hz
  have hv := Hv.out.mod hm (by show ¬ (_ = _); omega) (by show ¬ (_ = _); omega)
  clear Hv
  clear Hz
  have Hv := Lib.hid hv; clear hv
  have Hz := Lib.hid hz; clear hz
  have hb : Below W0.heap.size W0 w14 := hB.out.trans (hm.below (B := W0.heap.size) hB.out.size (by intro k hk; omega))
  clear hB hm
  have hB := Lib.hid hb; clear hb
  go_wp2_with fail
  refine (above_any gz rz cz ⟨3, 1, 9223372036854775807⟩ 0 false _ Hz.out ⟨by decide, by decide, by decide, by decide⟩).mono ?_
  rintro e w15 ⟨rfl, hq⟩
  have hm : Mod (fun _ => False) w14 w15 := by obtain ⟨q, rfl⟩ := hq; exact Mod.drewN _ _
  clear hq
  rw [show T.above ⟨3, 1, 9223372036854775807⟩ 0 false = 1 from rfl]
  have hv := Hv.out.mod hm (fun h => h) (fun h => h)
  have hz := Hz.out.mod hm (fun h => h) (fun h => h)
  clear Hv
  clear Hz
  have Hv := Lib.hid hv; clear hv
  have Hz := Lib.hid hz; clear hz
  have hb : Below W0.heap.size W0 w15 := hB.out.trans (hm.below (B := W0.heap.size) hB.out.size (fun _ h => h.elim))
  clear hB hm
  have hB := Lib.hid hb; clear hb
  go_wp2_with fail
  have lv := Hv.out.lt (by decide)
  have lz := Hz.out.lt (by decide)
  refine (new_any 5 0 _ (by decide)).mono ?_
  rintro e w16 ⟨gx, rx, cx, rfl, hx, hn, hgx, hrx⟩
  have ngxv : gx ≠ gv ∧ gx ≠ rv ∧ rx ≠ gv ∧ rx ≠ rv := by omega
  have ngxz : gx ≠ gz ∧ gx ≠ rz ∧ rx ≠ gz ∧ rx ≠ rz := by omega
  have hm : Mod (fun _ => False) w15 w16 := Mod.of_below hn (Nat.le_refl _) _
  have hv := Hv.out.mod hm (fun h => h) (fun h => h)
  have hz := Hz.out.mod hm (fun h => h) (fun h => h)
  clear Hv
  clear Hz
  have Hv := Lib.hid hv; clear hv
  have Hz := Lib.hid hz; clear hz
  have Hx := Lib.hid hx; clear hx
  have hb : Below W0.heap.size W0 w16 := hB.out.trans (hm.below (B := W0.heap.size) hB.out.size (fun _ h => h.elim))
  have hwx := hB.out.size
  replace hgx : W0.heap.size ≤ gx := by omega
  replace hrx : W0.heap.size ≤ rx := by omega
  clear hwx hn lv lz
  clear hB hm
  have hB := Lib.hid hb; clear hb
  go_wp2_with fail
  refine (hear_any gx rx cx ⟨5, 0, 0⟩ 3 14 _ Hx.out ⟨by decide, by decide, by decide, by decide⟩).mono ?_
  rintro e w17 ⟨rfl, hx, hm⟩
  rw [show T.hear ⟨5, 0, 0⟩ 3 14 = ⟨5, 0, 0⟩ from rfl] at hx
  have hv := Hv.out.mod hm (by show ¬ (_ = _); omega) (by show ¬ (_ = _); omega)
  have hz := Hz.out.mod hm (by show ¬ (_ = _); omega) (by show ¬ (_ = _); omega)
  clear Hv
  clear Hz
  clear Hx
  have Hv := Lib.hid hv; clear hv
  have Hz := Lib.hid hz; clear hz
  have Hx := Lib.hid hx; clear hx
  have hb : Below W0.heap.size W0 w17 := hB.out.trans (hm.below (B := W0.heap.size) hB.out.size (by intro k hk; omega))
  clear hB hm
  have hB := Lib.hid hb; clear hb
  go_wp2_with fail
  refine (tick_any gx rx cx ⟨5, 0, 0⟩ 0 false 15 _ Hx.out ⟨by decide, by decide, by decide, by decide⟩ (by decide) (by decide)).mono ?_
  rintro e w18 ⟨rfl, hx, hm⟩
  rw [show T.tick ⟨5, 0, 0⟩ 0 false 15 = ⟨5, 1, 15⟩ from rfl] at hx
  have hv := Hv.out.mod hm (by show ¬ (_ = _); omega) (by show ¬ (_ = _); omega)
  have hz := Hz.out.mod hm (by show ¬ (_ = _); omega) (by show ¬ (_ = _); omega)
  clear Hv
  clear Hz
  clear Hx
  have Hv := Lib.hid hv; clear hv
  have Hz := Lib.hid hz; clear hz
  have Hx := Lib.hid hx; clear hx
  have hb : Below W0.heap.size W0 w18 := hB.out.trans (hm.below (B := W0.heap.size) hB.out.size (by intro k hk; omega))
  clear hB hm
  have hB := Lib.hid hb; clear hb
  go_wp2_with fail
  refine (hear_nil 1 1 _).mono ?_
  rintro e w19 ⟨rfl, hn⟩
  have hm : Mod (fun _ => False) w18 w19 := by obtain ⟨q, rfl⟩ := hn; exact Mod.drewN _ _
  clear hn
  have hv := Hv.out.mod hm (fun h => h) (fun h => h)
  have hz := Hz.out.mod hm (fun h => h) (fun h => h)
  have hx := Hx.out.mod hm (fun h => h) (fun h => h)
  clear Hv
  clear Hz
  clear Hx
  have Hv := Lib.hid hv; clear hv
  have Hz := Lib.hid hz; clear hz
  have Hx := Lib.hid hx; clear hx
  have hb : Below W0.heap.size W0 w19 := hB.out.trans (hm.below (B := W0.heap.size) hB.out.size (fun _ h => h.elim))
  clear hB hm
  have hB := Lib.hid hb; clear hb
  go_wp2_with fail
  refine (tick_nil 0 true 1 _).mono ?_
  rintro e w20 ⟨rfl, hn⟩
  have hm : Mod (fun _ => False) w19 w20 := hn ▸ Mod.refl _ _
  clear hn
  have hv := Hv.out.mod hm (fun h => h) (fun h => h)
  have hz := Hz.out.mod hm (fun h => h) (fun h => h)
  have hx := Hx.out.mod hm (fun h => h) (fun h => h)
  clear Hv
  clear Hz
  clear Hx
  have Hv := Lib.hid hv; clear hv
  have Hz := Lib.hid hz; clear hz
  have Hx := Lib.hid hx; clear hx
  have hb : Below W0.heap.size W0 w20 := hB.out.trans (hm.below (B := W0.heap.size) hB.out.size (fun _ h => h.elim))
  clear hB hm
  have hB := Lib.hid hb; clear hb
  go_wp2_with fail
  refine (works_any _).mono ?_
  rintro e w21 ⟨rfl, hn⟩
  have hm : Mod (fun _ => False) w20 w21 := Mod.of_below hn (Nat.le_refl _) _
  clear hn
  have hv := Hv.out.mod hm (fun h => h) (fun h => h)
  have hz := Hz.out.mod hm (fun h => h) (fun h => h)
  have hx := Hx.out.mod hm (fun h => h) (fun h => h)
  clear Hv
  clear Hz
  clear Hx
  have Hv := Lib.hid hv; clear hv
  have Hz := Lib.hid hz; clear hz
  have Hx := Lib.hid hx; clear hx
  have hb : Below W0.heap.size W0 w21 := hB.out.trans (hm.below (B := W0.heap.size) hB.out.size (fun _ h => h.elim))
  clear hB hm
  have hB := Lib.hid hb; clear hb
  go_wp2_with fail
  refine (above_any gx rx cx ⟨5, 1, 15⟩ 0 false _ Hx.out ⟨by decide, by decide, by decide, by decide⟩).mono ?_
  rintro e w22 ⟨rfl, hq⟩
  have hm : Mod (fun _ => False) w21 w22 := by obtain ⟨q, rfl⟩ := hq; exact Mod.drewN _ _
  clear hq
  rw [show T.above ⟨5, 1, 15⟩ 0 false = 3 from rfl]
  have hv := Hv.out.mod hm (fun h => h) (fun h => h)
  have hz := Hz.out.mod hm (fun h => h) (fun h => h)
  have hx := Hx.out.mod hm (fun h => h) (fun h => h)
  clear Hv
  clear Hz
  clear Hx
  have Hv := Lib.hid hv; clear hv
  have Hz := Lib.hid hz; clear hz
  have Hx := Lib.hid hx; clear hx
  have hb : Below W0.heap.size W0 w22 := hB.out.trans (hm.below (B := W0.heap.size) hB.out.size (fun _ h => h.elim))
  clear hB hm
  have hB := Lib.hid hb; clear hb
  go_wp2_with fail
  refine (above_nil 0 true _).mono ?_
  rintro e w23 ⟨rfl, hn⟩
  have hm : Mod (fun _ => False) w22 w23 := hn ▸ Mod.refl _ _
  clear hn
  have hv := Hv.out.mod hm (fun h => h) (fun h => h)
  have hz := Hz.out.mod hm (fun h => h) (fun h => h)
  have hx := Hx.out.mod hm (fun h => h) (fun h => h)
  clear Hv
  clear Hz
  clear Hx
  have Hv := Lib.hid hv; clear hv
  have Hz := Lib.hid hz; clear hz
  have Hx := Lib.hid hx; clear hx
  have hb : Below W0.heap.size W0 w23 := hB.out.trans (hm.below (B := W0.heap.size) hB.out.size (fun _ h => h.elim))
  clear hB hm
  have hB := Lib.hid hb; clear hb
  go_wp2_with fail
  refine (new_none (-1) 0 _ (by decide)).mono ?_
  rintro e w24 ⟨rfl, hn⟩
  have hm : Mod (fun _ => False) w23 w24 := hn ▸ Mod.refl _ _
  clear hn
  have hv := Hv.out.mod hm (fun h => h) (fun h => h)
  have hz := Hz.out.mod hm (fun h => h) (fun h => h)
  have hx := Hx.out.mod hm (fun h => h) (fun h => h)
  clear Hv
  clear Hz
  clear Hx
  have Hv := Lib.hid hv; clear hv
  have Hz := Lib.hid hz; clear hz
  have Hx := Lib.hid hx; clear hx
  have hb : Below W0.heap.size W0 w24 := hB.out.trans (hm.below (B := W0.heap.size) hB.out.size (fun _ h => h.elim))
  clear hB hm
  have hB := Lib.hid hb; clear hb
  go_wp2_with fail
  refine (new_none 6 0 _ (by decide)).mono ?_
  rintro e w25 ⟨rfl, hn⟩
  have hm : Mod (fun _ => False) w24 w25 := hn ▸ Mod.refl _ _
  clear hn
  have hv := Hv.out.mod hm (fun h => h) (fun h => h)
  have hz := Hz.out.mod hm (fun h => h) (fun h => h)
  have hx := Hx.out.mod hm (fun h => h) (fun h => h)
  clear Hv
  clear Hz
  clear Hx
  have Hv := Lib.hid hv; clear hv
  have Hz := Lib.hid hz; clear hz
  have Hx := Lib.hid hx; clear hx
  have hb : Below W0.heap.size W0 w25 := hB.out.trans (hm.below (B := W0.heap.size) hB.out.size (fun _ h => h.elim))
  clear hB hm
  have hB := Lib.hid hb; clear hb
  go_wp2_with fail
  have lv := Hv.out.lt (by decide)
  have lz := Hz.out.lt (by decide)
  have lx := Hx.out.lt (by decide)
  refine (new_any 0 0 _ (by decide)).mono ?_
  rintro e w26 ⟨gp, rp, cp, rfl, hp, hn, hgp, hrp⟩
  have ngpv : gp ≠ gv ∧ gp ≠ rv ∧ rp ≠ gv ∧ rp ≠ rv := by omega
  have ngpz : gp ≠ gz ∧ gp ≠ rz ∧ rp ≠ gz ∧ rp ≠ rz := by omega
  have ngpx : gp ≠ gx ∧ gp ≠ rx ∧ rp ≠ gx ∧ rp ≠ rx := by omega
  have hm : Mod (fun _ => False) w25 w26 := Mod.of_below hn (Nat.le_refl _) _
  have hv := Hv.out.mod hm (fun h => h) (fun h => h)
  have hz := Hz.out.mod hm (fun h => h) (fun h => h)
  have hx := Hx.out.mod hm (fun h => h) (fun h => h)
  clear Hv
  clear Hz
  clear Hx
  have Hv := Lib.hid hv; clear hv
  have Hz := Lib.hid hz; clear hz
  have Hx := Lib.hid hx; clear hx
  have Hp := Lib.hid hp; clear hp
  have hb : Below W0.heap.size W0 w26 := hB.out.trans (hm.below (B := W0.heap.size) hB.out.size (fun _ h => h.elim))
  have hwp := hB.out.size
  replace hgp : W0.heap.size ≤ gp := by omega
  replace hrp : W0.heap.size ≤ rp := by omega
  clear hwp hn lv lz lx
  clear hB hm
  have hB := Lib.hid hb; clear hb
  go_wp2_with fail
  refine (above_any gp rp cp ⟨0, 0, 0⟩ 2 false _ Hp.out ⟨by decide, by decide, by decide, by decide⟩).mono ?_
  rintro e w27 ⟨rfl, hq⟩
  have hm : Mod (fun _ => False) w26 w27 := by obtain ⟨q, rfl⟩ := hq; exact Mod.drewN _ _
  clear hq
  rw [show T.above ⟨0, 0, 0⟩ 2 false = 2 from rfl]
  have hv := Hv.out.mod hm (fun h => h) (fun h => h)
  have hz := Hz.out.mod hm (fun h => h) (fun h => h)
  have hx := Hx.out.mod hm (fun h => h) (fun h => h)
  have hp := Hp.out.mod hm (fun h => h) (fun h => h)
  clear Hv
  clear Hz
  clear Hx
  clear Hp
  have Hv := Lib.hid hv; clear hv
  have Hz := Lib.hid hz; clear hz
  have Hx := Lib.hid hx; clear hx
  have Hp := Lib.hid hp; clear hp
  have hb : Below W0.heap.size W0 w27 := hB.out.trans (hm.below (B := W0.heap.size) hB.out.size (fun _ h => h.elim))
  clear hB hm
  have hB := Lib.hid hb; clear hb
  go_wp2_with fail
  have lv := Hv.out.lt (by decide)
  have lz := Hz.out.lt (by decide)
  have lx := Hx.out.lt (by decide)
  have lp := Hp.out.lt (by decide)
  refine (new_any 0 0 _ (by decide)).mono ?_
  rintro e w28 ⟨gq, rq, cq, rfl, hq, hn, hgq, hrq⟩
  have ngqv : gq ≠ gv ∧ gq ≠ rv ∧ rq ≠ gv ∧ rq ≠ rv := by omega
  have ngqz : gq ≠ gz ∧ gq ≠ rz ∧ rq ≠ gz ∧ rq ≠ rz := by omega
  have ngqx : gq ≠ gx ∧ gq ≠ rx ∧ rq ≠ gx ∧ rq ≠ rx := by omega
  have ngqp : gq ≠ gp ∧ gq ≠ rp ∧ rq ≠ gp ∧ rq ≠ rp := by omega
  have hm : Mod (fun _ => False) w27 w28 := Mod.of_below hn (Nat.le_refl _) _
  have hv := Hv.out.mod hm (fun h => h) (fun h => h)
  have hz := Hz.out.mod hm (fun h => h) (fun h => h)
  have hx := Hx.out.mod hm (fun h => h) (fun h => h)
  have hp := Hp.out.mod hm (fun h => h) (fun h => h)
  clear Hv
  clear Hz
  clear Hx
  clear Hp
  have Hv := Lib.hid hv; clear hv
  have Hz := Lib.hid hz; clear hz
  have Hx := Lib.hid hx; clear hx
  have Hp := Lib.hid hp; clear hp
  have Hq := Lib.hid hq; clear hq
  have hb : Below W0.heap.size W0 w28 := hB.out.trans (hm.below (B := W0.heap.size) hB.out.size (fun _ h => h.elim))
  have hwq := hB.out.size
  replace hgq : W0.heap.size ≤ gq := by omega
  replace hrq : W0.heap.size ≤ rq := by omega
  clear hwq hn lv lz lx lp
  clear hB hm
  have hB := Lib.hid hb; clear hb
  go_wp2_with fail
  refine (above_any gq rq cq ⟨0, 0, 0⟩ 0 true _ Hq.out ⟨by decide, by decide, by decide, by decide⟩).mono ?_
  rintro e w29 ⟨rfl, hq⟩
  have hm : Mod (fun _ => False) w28 w29 := by obtain ⟨q, rfl⟩ := hq; exact Mod.drewN _ _
  clear hq
  rw [show T.above ⟨0, 0, 0⟩ 0 true = 1 from rfl]
  have hv := Hv.out.mod hm (fun h => h) (fun h => h)
  have hz := Hz.out.mod hm (fun h => h) (fun h => h)
  have hx := Hx.out.mod hm (fun h => h) (fun h => h)
  have hp := Hp.out.mod hm (fun h => h) (fun h => h)
  have hq := Hq.out.mod hm (fun h => h) (fun h => h)
  clear Hv
  clear Hz
  clear Hx
  clear Hp
  clear Hq
  have Hv := Lib.hid hv; clear hv
  have Hz := Lib.hid hz; clear hz
  have Hx := Lib.hid hx; clear hx
  have Hp := Lib.hid hp; clear hp
  have Hq := Lib.hid hq; clear hq
  have hb : Below W0.heap.size W0 w29 := hB.out.trans (hm.below (B := W0.heap.size) hB.out.size (fun _ h => h.elim))
  clear hB hm
  have hB := Lib.hid hb; clear hb
  go_wp2_with fail
  have lv := Hv.out.lt (by decide)
  have lz := Hz.out.lt (by decide)
  have lx := Hx.out.lt (by decide)
  have lp := Hp.out.lt (by decide)
  have lq := Hq.out.lt (by decide)
  refine (new_any 2 0 _ (by decide)).mono ?_
  rintro e w30 ⟨gs, rs, cs, rfl, hs, hn, hgs, hrs⟩
  have ngsv : gs ≠ gv ∧ gs ≠ rv ∧ rs ≠ gv ∧ rs ≠ rv := by omega
  have ngsz : gs ≠ gz ∧ gs ≠ rz ∧ rs ≠ gz ∧ rs ≠ rz := by omega
  have ngsx : gs ≠ gx ∧ gs ≠ rx ∧ rs ≠ gx ∧ rs ≠ rx := by omega
  have ngsp : gs ≠ gp ∧ gs ≠ rp ∧ rs ≠ gp ∧ rs ≠ rp := by omega
  have ngsq : gs ≠ gq ∧ gs ≠ rq ∧ rs ≠ gq ∧ rs ≠ rq := by omega
  have hm : Mod (fun _ => False) w29 w30 := Mod.of_below hn (Nat.le_refl _) _
  have hv := Hv.out.mod hm (fun h => h) (fun h => h)
  have hz := Hz.out.mod hm (fun h => h) (fun h => h)
  have hx := Hx.out.mod hm (fun h => h) (fun h => h)
  have hp := Hp.out.mod hm (fun h => h) (fun h => h)
  have hq := Hq.out.mod hm (fun h => h) (fun h => h)
  clear Hv
  clear Hz
  clear Hx
  clear Hp
  clear Hq
  have Hv := Lib.hid hv; clear hv
  have Hz := Lib.hid hz; clear hz
  have Hx := Lib.hid hx; clear hx
  have Hp := Lib.hid hp; clear hp
  have Hq := Lib.hid hq; clear hq
  have Hs := Lib.hid hs; clear hs
  have hb : Below W0.heap.size W0 w30 := hB.out.trans (hm.below (B := W0.heap.size) hB.out.size (fun _ h => h.elim))
  have hws := hB.out.size
  replace hgs : W0.heap.size ≤ gs := by omega
  replace hrs : W0.heap.size ≤ rs := by omega
  clear hws hn lv lz lx lp lq
  clear hB hm
  have hB := Lib.hid hb; clear hb
  go_wp2_with fail
  refine (above_any gs rs cs ⟨2, 0, 0⟩ 2 true _ Hs.out ⟨by decide, by decide, by decide, by decide⟩).mono ?_
  rintro e w31 ⟨rfl, hq⟩
  have hm : Mod (fun _ => False) w30 w31 := by obtain ⟨q, rfl⟩ := hq; exact Mod.drewN _ _
  clear hq
  rw [show T.above ⟨2, 0, 0⟩ 2 true = 0 from rfl]
  have hv := Hv.out.mod hm (fun h => h) (fun h => h)
  have hz := Hz.out.mod hm (fun h => h) (fun h => h)
  have hx := Hx.out.mod hm (fun h => h) (fun h => h)
  have hp := Hp.out.mod hm (fun h => h) (fun h => h)
  have hq := Hq.out.mod hm (fun h => h) (fun h => h)
  have hs := Hs.out.mod hm (fun h => h) (fun h => h)
  clear Hv
  clear Hz
  clear Hx
  clear Hp
  clear Hq
  clear Hs
  have Hv := Lib.hid hv; clear hv
  have Hz := Lib.hid hz; clear hz
  have Hx := Lib.hid hx; clear hx
  have Hp := Lib.hid hp; clear hp
  have Hq := Lib.hid hq; clear hq
  have Hs := Lib.hid hs; clear hs
  have hb : Below W0.heap.size W0 w31 := hB.out.trans (hm.below (B := W0.heap.size) hB.out.size (fun _ h => h.elim))
  clear hB hm
  have hB := Lib.hid hb; clear hb
  go_wp2_with fail
  have lv := Hv.out.lt (by decide)
  have lz := Hz.out.lt (by decide)
  have lx := Hx.out.lt (by decide)
  have lp := Hp.out.lt (by decide)
  have lq := Hq.out.lt (by decide)
  have ls := Hs.out.lt (by decide)
  refine (new_any 5 7 _ (by decide)).mono ?_
  rintro e w32 ⟨gy, ry, cy, rfl, hy, hn, hgy, hry⟩
  have ngyv : gy ≠ gv ∧ gy ≠ rv ∧ ry ≠ gv ∧ ry ≠ rv := by omega
  have ngyz : gy ≠ gz ∧ gy ≠ rz ∧ ry ≠ gz ∧ ry ≠ rz := by omega
  have ngyx : gy ≠ gx ∧ gy ≠ rx ∧ ry ≠ gx ∧ ry ≠ rx := by omega
  have ngyp : gy ≠ gp ∧ gy ≠ rp ∧ ry ≠ gp ∧ ry ≠ rp := by omega
  have ngyq : gy ≠ gq ∧ gy ≠ rq ∧ ry ≠ gq ∧ ry ≠ rq := by omega
  have ngys : gy ≠ gs ∧ gy ≠ rs ∧ ry ≠ gs ∧ ry ≠ rs := by omega
  have hm : Mod (fun _ => False) w31 w32 := Mod.of_below hn (Nat.le_refl _) _
  have hv := Hv.out.mod hm (fun h => h) (fun h => h)
  have hz := Hz.out.mod hm (fun h => h) (fun h => h)
  have hx := Hx.out.mod hm (fun h => h) (fun h => h)
  have hp := Hp.out.mod hm (fun h => h) (fun h => h)
  have hq := Hq.out.mod hm (fun h => h) (fun h => h)
  have hs := Hs.out.mod hm (fun h => h) (fun h => h)
  clear Hv
  clear Hz
  clear Hx
  clear Hp
  clear Hq
  clear Hs
  have Hv := Lib.hid hv; clear hv
  have Hz := Lib.hid hz; clear hz
  have Hx := Lib.hid hx; clear hx
  have Hp := Lib.hid hp; clear hp
  have Hq := Lib.hid hq; clear hq
  have Hs := Lib.hid hs; clear hs
  have Hy := Lib.hid hy; clear hy
  have hb : Below W0.heap.size W0 w32 := hB.out.trans (hm.below (B := W0.heap.size) hB.out.size (fun _ h => h.elim))
  have hwy := hB.out.size
  replace hgy : W0.heap.size ≤ gy := by omega
  replace hry : W0.heap.size ≤ ry := by omega
  clear hwy hn lv lz lx lp lq ls
  clear hB hm
  have hB := Lib.hid hb; clear hb
  go_wp2_with fail
  refine (above_any gy ry cy ⟨5, 0, 7⟩ (-1) false _ Hy.out ⟨by decide, by decide, by decide, by decide⟩).mono ?_
  rintro e w33 ⟨rfl, hq⟩
  have hm : Mod (fun _ => False) w32 w33 := by obtain ⟨q, rfl⟩ := hq; exact Mod.drewN _ _
  clear hq
  rw [show T.above ⟨5, 0, 7⟩ (-1) false = 4 from rfl]
  have hv := Hv.out.mod hm (fun h => h) (fun h => h)
  have hz := Hz.out.mod hm (fun h => h) (fun h => h)
  have hx := Hx.out.mod hm (fun h => h) (fun h => h)
  have hp := Hp.out.mod hm (fun h => h) (fun h => h)
  have hq := Hq.out.mod hm (fun h => h) (fun h => h)
  have hs := Hs.out.mod hm (fun h => h) (fun h => h)
  have hy := Hy.out.mod hm (fun h => h) (fun h => h)
  clear Hv
  clear Hz
  clear Hx
  clear Hp
  clear Hq
  clear Hs
  clear Hy
  have Hv := Lib.hid hv; clear hv
  have Hz := Lib.hid hz; clear hz
  have Hx := Lib.hid hx; clear hx
  have Hp := Lib.hid hp; clear hp
  have Hq := Lib.hid hq; clear hq
  have Hs := Lib.hid hs; clear hs
  have Hy := Lib.hid hy; clear hy
  have hb : Below W0.heap.size W0 w33 := hB.out.trans (hm.below (B := W0.heap.size) hB.out.size (fun _ h => h.elim))
  clear hB hm
  have hB := Lib.hid hb; clear hb
  go_wp2_with fail
  go_ret
  exact retB rfl hB.out
end Go.Proofs.Ytbmnaimbognohaa
