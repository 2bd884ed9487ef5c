/- The walks of the reference's tree. -/
import Derived.Test.YtbmnaimbognohaaRow
import Derived.Deep.RegionHeld3
namespace Go.Proofs.Ytbmnaimbognohaa
open Go.RowKit Go.Joins

/-- the reference's tree in memory. -/
def RTr (w : World) (g : Nat) (t : T) : Prop := w.heap[g]? = some (.cells #[.int .i64 t.me, .int .i64 t.place, .int .i64 t.time] 42 (0, 0))
theorem RTr.cells {w : World} {g : Nat} {t : T} (h : RTr w g t) : w.cell? ⟨g, 0, none⟩ = some (.int .i64 t.me) ∧ w.cell? ⟨g, 1, none⟩ = some (.int .i64 t.place) ∧ w.cell? ⟨g, 2, none⟩ = some (.int .i64 t.time) :=
  ⟨cell_of_block h 0, cell_of_block h 1, cell_of_block h 2⟩
theorem RTr.free {w : World} {g : Nat} {t : T} (h : RTr w g t) (i : Nat) : w.frozen? ⟨g, i, none⟩ = false := unfrozen_of_block h i
theorem RTr.mod {S : Nat → Prop} {w w' : World} {g : Nat} {t : T} (h : RTr w g t) (hm : Mod S w w') (hg : ¬ S g) : RTr w' g t := hm.heap h hg
theorem RTr.setTime {w : World} {g : Nat} {t : T} (h : RTr w g t) (c : Int) : RTr (w.setCell ⟨g, 2, none⟩ (.int .i64 c)) g { t with time := c } := by
  have := block_setCell (i := 2) h (.int .i64 c); simpa [RTr] using this
theorem RTr.setPlace {w : World} {g : Nat} {t : T} (h : RTr w g t) (p : Nat) : RTr (w.setCell ⟨g, 1, none⟩ (.int .i64 p)) g { t with place := p } := by
  have := block_setCell (i := 1) h (.int .i64 p); simpa [RTr] using this
def RPost (g : Nat) (t : T) (w : World) (e : Ending) (w' : World) : Prop := e = .returned (.tuple #[]) ∧ RTr w' g t ∧ Mod (fun k => k = g) w w'
theorem rPost {g : Nat} {t t' : T} {w w' : World} (h : t = t') (ht : RTr w' g t) (hm : Mod (fun k => k = g) w w') : RPost g t' w (.returned (.tuple #[])) w' := ⟨rfl, h ▸ ht, hm⟩

set_option maxHeartbeats 400000 in
theorem rturns_any (g : Nat) (t : T) (head : Int) (behind : Bool) (w : World) (ht : RTr w g t) :
    Calls Try.prog 19 #[.pointer (some ⟨g, 0, none⟩), .int .i64 head, .bool behind] w (SameB (t.turns head behind) w) := by
  obtain ⟨c0, c1, c2⟩ := ht.cells
  by_cases h1 : 3 ≤ t.me
  · have hs := Lib.hid (T.turns_high h1 head behind)
    go_enter Try.func19, Try.ntmps19
    go_wp2
    go_ret
    exact sameB hs.out.symm
  · have h1' : ¬ ((3 : Int) ≤ (t.me : Int)) := by omega
    have h1'' : decide ((3 : Int) ≤ (t.me : Int)) = false := by simpa using h1'
    by_cases h2 : head = t.me
    · subst h2
      have hs := Lib.hid (T.turns_me h1 rfl behind)
      go_enter Try.func19, Try.ntmps19
      go_wp2
      go_ret
      exact sameB hs.out.symm
    · have hs := Lib.hid (T.turns_other h1 h2 behind)
      go_enter Try.func19, Try.ntmps19
      go_wp2
      go_ret
      exact sameB hs.out.symm

set_option maxHeartbeats 400000 in
theorem passed_any (a b : Int) (w : World) (ha : -9223372036854775808 ≤ a) (hb : -9223372036854775808 ≤ b) (hb2 : b ≤ 9223372036854775807) :
    Calls Try.prog 20 #[.int .i64 a, .int .i64 b, .int .u64 15] w (SameB (decide (a ≤ b ∧ 15 ≤ b - a)) w) := by
  by_cases h : a ≤ b
  · have hu := uwrap_sub b a hb hb2 ha h
    have hs : Hid (decide (15 ≤ b - a) = decide (a ≤ b ∧ 15 ≤ b - a)) := by simp [Hid, h]
    go_enter Try.func20, Try.ntmps20
    go_wp2
    go_ret
    exact sameB hs.out
  · have h' : decide (a ≤ b) = false := by simpa using h
    go_enter Try.func20, Try.ntmps20
    go_wp2
    go_ret
    exact sameB rfl

/-- the reference's row, and what stands at a place of it. -/
def RowAt (n : Nat) (place : Nat) (v : Int) (w : World) (e : Ending) (w' : World) : Prop :=
  ∃ g cap, e = .returned (.slice (some ⟨g, 0, none⟩) n cap) ∧ w'.cell? ⟨g, place, none⟩ = some (.int .i64 v) ∧ Below w.heap.size w w'

theorem row_at (me place : Nat) (hm : me < 6) (hp : place < (rowL me).length) (w : World) : Calls Try.prog 17 #[.int .i64 me] w (RowAt (rowL me).length place ((rowL me).getD place 0) w) := by
  refine (row_any me hm w).mono ?_
  rintro e w' ⟨v, rfl, hown, hb⟩
  obtain ⟨g, cap, rfl, _⟩ := own_slice hown (by omega)
  refine ⟨g, cap, rfl, ?_, hb⟩
  rw [hown.cellAt place (by omega)]
  simp [hp]

theorem below_drew_mod {w w1 : World} (hb : Below w.drew.heap.size w.drew w1) (S : Nat → Prop) : Mod S w w1 := (Mod.drewN w 1).trans (Mod.of_below hb (Nat.le_refl _) S)

set_option maxHeartbeats 1000000 in
theorem rhear_any (g : Nat) (t : T) (src clock : Int) (w : World) (ht : RTr w g t) (hk : t.ok) :
    Calls Try.prog 11 #[.pointer (some ⟨g, 0, none⟩), .int .i64 src, .int .i64 clock] w (RPost g (t.hear src clock) w) := by
  obtain ⟨c0, c1, c2⟩ := ht.cells
  have hg : g < w.heap.size := World.block_lt_of_cell? _ _ c0
  have hp := hk.2.1
  have hcap : 2 ≤ (rowL t.me).length ∧ (rowL t.me).length ≤ 5 := rowL_pos t.me hk.1
  have hrow := fun w => row_at t.me t.place hk.1 hp w
  have hat : Hid (t.at = (rowL t.me).getD t.place 0) := rfl
  have f1 := ht.free 1
  have f2 := ht.free 2
  generalize (rowL t.me).getD t.place 0 = v at hrow hat
  generalize (rowL t.me).length = n at hp hcap hrow
  have Ht := Lib.hid ht
  have Hrow := Lib.hid hrow
  clear hrow ht
  have hp2 : (t.place : Int) < (n : Int) := by omega
  by_cases hv : v = src
  · have hs := Lib.hid (hear_yes (hat.out.trans hv) clock)
    have hb : (v == src) = true := by simp [hv]
    clear hv
    go_enter Try.func11, Try.ntmps11
    go_wp2_with fail
    go_region_with (go_at_call 17; refine (Hrow.out _).mono ?_; rintro e w1 ⟨gr, cap, rfl, hc, hb1⟩; have hd0 := (hb1.cell (p := ⟨g, 0, none⟩) (by simpa using hg)).trans c0; have hd1 := (hb1.cell (p := ⟨g, 1, none⟩) (by simpa using hg)).trans c1; have hf1 := (hb1.frozen (p := ⟨g, 1, none⟩) (by simpa using hg)).trans f1; have hf2 := (hb1.frozen (p := ⟨g, 2, none⟩) (by simpa using hg)).trans f2; have hd2 := (hb1.cell (p := ⟨g, 2, none⟩) (by simpa using hg)).trans c2)
    all_goals
      go_wp2
      go_end0
      have hmod := below_drew_mod hb1 (fun k => k = g)
      exact rPost hs.out.symm ((Ht.out.mod (below_drew_mod hb1 (fun _ => False)) (fun h => h)).setTime clock) (hmod.trans (Mod.cellOf g 2 _))
  · have hs := Lib.hid (hear_no (fun e => hv (hat.out.symm.trans e)) clock)
    have hb : (v == src) = false := by simp [hv]
    clear hv
    go_enter Try.func11, Try.ntmps11
    go_wp2_with fail
    go_region_with (go_at_call 17; refine (Hrow.out _).mono ?_; rintro e w1 ⟨gr, cap, rfl, hc, hb1⟩; have hd0 := (hb1.cell (p := ⟨g, 0, none⟩) (by simpa using hg)).trans c0; have hd1 := (hb1.cell (p := ⟨g, 1, none⟩) (by simpa using hg)).trans c1; have hf1 := (hb1.frozen (p := ⟨g, 1, none⟩) (by simpa using hg)).trans f1; have hf2 := (hb1.frozen (p := ⟨g, 2, none⟩) (by simpa using hg)).trans f2; have hd2 := (hb1.cell (p := ⟨g, 2, none⟩) (by simpa using hg)).trans c2)
    all_goals
      go_wp2
      go_end0
      have hmod := below_drew_mod hb1 (fun k => k = g)
      exact rPost hs.out.symm (Ht.out.mod (below_drew_mod hb1 (fun _ => False)) (fun h => h)) hmod

set_option maxHeartbeats 1000000 in
theorem rabove_any (g : Nat) (t : T) (head : Int) (behind : Bool) (w : World) (ht : RTr w g t) (hk : t.ok) :
    Calls Try.prog 15 #[.pointer (some ⟨g, 0, none⟩), .int .i64 head, .bool behind] w (RetI (t.above head behind) w) := by
  obtain ⟨c0, c1, c2⟩ := ht.cells
  have hg : g < w.heap.size := World.block_lt_of_cell? _ _ c0
  have hp := hk.2.1
  have hcap : 2 ≤ (rowL t.me).length ∧ (rowL t.me).length ≤ 5 := rowL_pos t.me hk.1
  have hrow := fun w => row_at t.me t.place hk.1 hp w
  have hat : Hid (t.at = (rowL t.me).getD t.place 0) := rfl
  have f1 := ht.free 1
  have f2 := ht.free 2
  generalize (rowL t.me).getD t.place 0 = v at hrow hat
  generalize (rowL t.me).length = n at hp hcap hrow
  have Ht := Lib.hid ht
  have Hrow := Lib.hid hrow
  clear hrow ht
  have hp2 : (t.place : Int) < (n : Int) := by omega
  cases hT : t.turns head behind with
  | true =>
    have hs := Lib.hid ((T.above_yes hT).trans hat.out)
    have HT := Lib.hid hT; clear hT
    go_enter Try.func15, Try.ntmps15
    go_wp2_with (go_at_call 19; refine (rturns_any _ _ _ _ _ Ht.out).mono ?_; rintro e w1 ⟨rfl, rfl⟩; rw [HT.out])
    go_region_with (go_at_call 17; refine (Hrow.out _).mono ?_; rintro e w1 ⟨gr, cap, rfl, hc, hb1⟩; have hd0 := (hb1.cell (p := ⟨g, 0, none⟩) (by simpa using hg)).trans c0; have hd1 := (hb1.cell (p := ⟨g, 1, none⟩) (by simpa using hg)).trans c1; have hf1 := (hb1.frozen (p := ⟨g, 1, none⟩) (by simpa using hg)).trans f1; have hf2 := (hb1.frozen (p := ⟨g, 2, none⟩) (by simpa using hg)).trans f2; have hd2 := (hb1.cell (p := ⟨g, 2, none⟩) (by simpa using hg)).trans c2)
    all_goals
      go_wp2
      go_ret
      exact retI hs.out.symm ((below_drew_mod hb1 (fun _ => False)).below (Nat.le_refl _) (fun _ h => h.elim))
  | false =>
    have HT := Lib.hid hT
    by_cases h0 : 0 ≤ head
    · by_cases h3 : head < 3
      · by_cases hm : head = t.me
        · have hs2 := Lib.hid (T.above_none hT (.inr (.inr hm)))
          have hb2 : (head == (t.me : Int)) = true := by simp [hm]
          clear hm hT
          go_enter Try.func15, Try.ntmps15
          go_wp2_with (go_at_call 19; refine (rturns_any _ _ _ _ _ Ht.out).mono ?_; rintro e w1 ⟨rfl, rfl⟩; rw [HT.out])
          go_ret
          exact retI hs2.out.symm (Below.refl _ _)
        · have hs2 := Lib.hid (T.above_head hT h0 h3 hm)
          have hb2 : (head == (t.me : Int)) = false := by simp [hm]
          clear hm hT
          go_enter Try.func15, Try.ntmps15
          go_wp2_with (go_at_call 19; refine (rturns_any _ _ _ _ _ Ht.out).mono ?_; rintro e w1 ⟨rfl, rfl⟩; rw [HT.out])
          go_ret
          exact retI hs2.out.symm (Below.refl _ _)
      · have hs2 := Lib.hid (T.above_none hT (.inr (.inl (by omega))))
        clear hT
        go_enter Try.func15, Try.ntmps15
        go_wp2_with (go_at_call 19; refine (rturns_any _ _ _ _ _ Ht.out).mono ?_; rintro e w1 ⟨rfl, rfl⟩; rw [HT.out])
        go_ret
        exact retI hs2.out.symm (Below.refl _ _)
    · have hs2 := Lib.hid (T.above_none hT (.inl (by omega)))
      clear hT
      go_enter Try.func15, Try.ntmps15
      go_wp2_with (go_at_call 19; refine (rturns_any _ _ _ _ _ Ht.out).mono ?_; rintro e w1 ⟨rfl, rfl⟩; rw [HT.out])
      go_ret
      exact retI hs2.out.symm (Below.refl _ _)

set_option maxHeartbeats 1000000 in
theorem rtick_any (g : Nat) (t : T) (head : Int) (behind : Bool) (clock : Int) (w : World) (ht : RTr w g t) (hk : t.ok) (hc1 : -9223372036854775808 ≤ clock) (hc2 : clock ≤ 9223372036854775807) :
    Calls Try.prog 13 #[.pointer (some ⟨g, 0, none⟩), .int .i64 head, .bool behind, .int .i64 clock] w (RPost g (t.tick head behind clock) w) := by
  obtain ⟨c0, c1, c2⟩ := ht.cells
  have hg : g < w.heap.size := World.block_lt_of_cell? _ _ c0
  have hp := hk.2.1
  have hcap : 2 ≤ (rowL t.me).length ∧ (rowL t.me).length ≤ 5 := rowL_pos t.me hk.1
  have hrow := fun w => row_at t.me t.place hk.1 hp w
  have hat : Hid (t.at = (rowL t.me).getD t.place 0) := rfl
  have f1 := ht.free 1
  have f2 := ht.free 2
  have ht1 := hk.2.2.1
  have ht2 := hk.2.2.2
  cases hT : t.turns head behind with
  | false =>
    have hs := Lib.hid (tick_no hT clock)
    have HT := Lib.hid hT; clear hT
    have Ht := Lib.hid ht; clear ht hrow
    go_enter Try.func13, Try.ntmps13
    go_wp2_with (go_at_call 19; refine (rturns_any _ _ _ _ _ Ht.out).mono ?_; rintro e w1 ⟨rfl, rfl⟩; rw [HT.out])
    refine bodyPost_ret (results_none rfl _ _ _) rfl ?_
    exact rPost hs.out.symm (Ht.out.setTime clock) (Mod.cellOf g 2 _)
  | true =>
    by_cases h1 : t.time ≤ clock ∧ 15 ≤ clock - t.time
    · have hs := Lib.hid (tick_yes hT h1)
      have HT := Lib.hid hT; clear hT
      generalize (rowL t.me).getD t.place 0 = v at hrow hat
      generalize (rowL t.me).length = n at *
      have Ht := Lib.hid ht
      have Hrow := Lib.hid hrow
      clear hrow ht
      have hp2 : (t.place : Int) < (n : Int) := by omega
      have Hd := Lib.hid (decide_eq_true h1); clear h1
      go_enter Try.func13, Try.ntmps13
      go_wp2_with (first
        | (go_at_call 19; refine (rturns_any _ _ _ _ _ Ht.out).mono ?_; rintro e w1 ⟨rfl, rfl⟩; rw [HT.out])
        | (go_at_call 20; refine (passed_any _ _ _ ht1 hc1 hc2).mono ?_; rintro e w1 ⟨rfl, rfl⟩; rw [Hd.out]))
      go_region_with (go_at_call 17; refine (Hrow.out _).mono ?_; rintro e w1 ⟨gr, cap, rfl, hc, hb1⟩; have hd0 := (hb1.cell (p := ⟨g, 0, none⟩) (by simpa using hg)).trans c0; have hd1 := (hb1.cell (p := ⟨g, 1, none⟩) (by simpa using hg)).trans c1; have hf1 := (hb1.frozen (p := ⟨g, 1, none⟩) (by simpa using hg)).trans f1; have hf2 := (hb1.frozen (p := ⟨g, 2, none⟩) (by simpa using hg)).trans f2; have hd2 := (hb1.cell (p := ⟨g, 2, none⟩) (by simpa using hg)).trans c2)
      all_goals
        go_wp2
        go_end0
        have hmod := below_drew_mod hb1 (fun k => k = g)
        exact rPost hs.out.symm (((Ht.out.mod (below_drew_mod hb1 (fun _ => False)) (fun h => h)).setPlace ((t.place + 1) % n)).setTime clock) ((hmod.trans (Mod.cellOf g 1 _)).trans (Mod.cellOf g 2 _))
    · have hs := Lib.hid (tick_wait hT h1)
      have HT := Lib.hid hT; clear hT
      have Ht := Lib.hid ht; clear ht hrow
      have Hd := Lib.hid (decide_eq_false h1); clear h1
      go_enter Try.func13, Try.ntmps13
      go_wp2_with (first
        | (go_at_call 19; refine (rturns_any _ _ _ _ _ Ht.out).mono ?_; rintro e w1 ⟨rfl, rfl⟩; rw [HT.out])
        | (go_at_call 20; refine (passed_any _ _ _ ht1 hc1 hc2).mono ?_; rintro e w1 ⟨rfl, rfl⟩; rw [Hd.out]))
      go_end0
      exact rPost hs.out.symm Ht.out (Mod.refl _ _)
end Go.Proofs.Ytbmnaimbognohaa
