/- Contracts of the methods of tree.Tree. -/
import Derived.Test.YtbmnaimbognohaaRows
import Derived.Test.YtbmnaimbognohaaPlain
import Derived.Test.YtbmnaimbognohaaBase
namespace Go.Proofs.Ytbmnaimbognohaa
open Go.RowKit Go.Joins

/-- a tree in memory: its block g, its row's block r. -/
def Tr (w : World) (g r cap : Nat) (t : T) : Prop :=
  w.heap[g]? = some (.cells #[.int .i64 t.me, .slice (some ⟨r, 0, none⟩) (rowL t.me).length cap, .int .i64 t.place, .int .i64 t.time] 39 (0, 0)) ∧
  (∀ i, i < (rowL t.me).length → w.cell? ⟨r, i, none⟩ = some (.int .i64 ((rowL t.me).getD i 0))) ∧ r ≠ g

theorem Tr.cells {w : World} {g r cap : Nat} {t : T} (h : Tr w g r cap t) : w.cell? ⟨g, 0, none⟩ = some (.int .i64 t.me) ∧ w.cell? ⟨g, 1, none⟩ = some (.slice (some ⟨r, 0, none⟩) (rowL t.me).length cap) ∧
    w.cell? ⟨g, 2, none⟩ = some (.int .i64 t.place) ∧ w.cell? ⟨g, 3, none⟩ = some (.int .i64 t.time) :=
  ⟨cell_of_block h.1 0, cell_of_block h.1 1, cell_of_block h.1 2, cell_of_block h.1 3⟩
theorem Tr.mod {S : Nat → Prop} {w w' : World} {g r cap : Nat} {t : T} (h : Tr w g r cap t) (hm : Mod S w w') (hg : ¬ S g) (hr : ¬ S r) : Tr w' g r cap t :=
  ⟨hm.heap h.1 hg, fun i hi => hm.cell (h.2.1 i hi) hr, h.2.2⟩
theorem Tr.setTime {w : World} {g r cap : Nat} {t : T} (h : Tr w g r cap t) (c : Int) : Tr (w.setCell ⟨g, 3, none⟩ (.int .i64 c)) g r cap { t with time := c } :=
  ⟨by have := block_setCell (i := 3) h.1 (.int .i64 c); simpa using this, fun i hi => (World.cell?_setCell_other _ _ _ _ (by intro e; exact h.2.2 (Addr.mk.inj e).1.symm)).trans (h.2.1 i hi), h.2.2⟩
theorem Tr.setPlace {w : World} {g r cap : Nat} {t : T} (h : Tr w g r cap t) (p : Nat) : Tr (w.setCell ⟨g, 2, none⟩ (.int .i64 p)) g r cap { t with place := p } :=
  ⟨by have := block_setCell (i := 2) h.1 (.int .i64 p); simpa using this, fun i hi => (World.cell?_setCell_other _ _ _ _ (by intro e; exact h.2.2 (Addr.mk.inj e).1.symm)).trans (h.2.1 i hi), h.2.2⟩
/-- what a method that turns a tree leaves. -/
def TrPost (g r cap : Nat) (t : T) (w : World) (e : Ending) (w' : World) : Prop := e = .returned (.tuple #[]) ∧ Tr w' g r cap t ∧ Mod (fun k => k = g) w w'
theorem Tr.free {w : World} {g r cap : Nat} {t : T} (h : Tr w g r cap t) (i : Nat) : w.frozen? ⟨g, i, none⟩ = false := unfrozen_of_block h.1 i

def ptr (g : Nat) : Value := .pointer (some ⟨g, 0, none⟩)

set_option maxHeartbeats 400000 in
theorem turns_any (g r cap : Nat) (t : T) (head : Int) (behind : Bool) (w : World) (ht : Tr w g r cap t) :
    Calls Try.prog 18 #[.pointer (some ⟨g, 0, none⟩), .int .i64 head, .bool behind] w (SameB (t.turns head behind) w) := by
  obtain ⟨c0, c1, c2, c3⟩ := ht.cells
  by_cases h1 : 3 ≤ t.me
  · have hs := Lib.hid (T.turns_high h1 head behind)
    go_enter Try.func18, Try.ntmps18
    go_wp2
    go_ret
    exact sameB hs.out.symm
  · have h1' : ¬ ((3 : Int) ≤ (t.me : Int)) := by omega
    have h1'' : decide ((3 : Int) ≤ (t.me : Int)) = false := by simpa using h1'
    by_cases h2 : head = t.me
    · subst h2
      have hs := Lib.hid (T.turns_me h1 rfl behind)
      go_enter Try.func18, Try.ntmps18
      go_wp2
      go_ret
      exact sameB hs.out.symm
    · have hs := Lib.hid (T.turns_other h1 h2 behind)
      go_enter Try.func18, Try.ntmps18
      go_wp2
      go_ret
      exact sameB hs.out.symm

set_option maxHeartbeats 400000 in
theorem above_any (g r cap : Nat) (t : T) (head : Int) (behind : Bool) (w : World) (ht : Tr w g r cap t) (hk : t.ok) :
    Calls Try.prog 14 #[.pointer (some ⟨g, 0, none⟩), .int .i64 head, .bool behind] w (QuietI (t.above head behind) w) := by
  obtain ⟨c0, c1, c2, c3⟩ := ht.cells
  have hp := hk.2.1
  have hr := ht.2.1 t.place hp
  have hcap : (rowL t.me).length ≤ 5 := (rowL_pos t.me hk.1).2
  have hat : Hid (t.at = (rowL t.me).getD t.place 0) := rfl
  generalize (rowL t.me).getD t.place 0 = v at hr hat
  generalize (rowL t.me).length = n at c1 hp hcap
  cases hT : t.turns head behind with
  | true =>
    have hs := Lib.hid ((T.above_yes hT).trans hat.out)
    have HT := Lib.hid hT; clear hT
    have hp2 : (t.place : Int) < (n : Int) := by omega
    go_enter Try.func14, Try.ntmps14
    go_wp2_with (go_at_call 18; refine (turns_any _ _ _ _ _ _ _ ht).mono ?_; rintro e w1 ⟨rfl, rfl⟩; rw [HT.out])
    go_quiet (fail)
    go_wp2
    go_ret
    exact quietI hs.out.symm ⟨_, rfl⟩
  | false =>
    have HT := Lib.hid hT
    by_cases h0 : 0 ≤ head
    · by_cases h3 : head < 3
      · by_cases hm : head = t.me
        · have hs2 := Lib.hid (T.above_none hT (.inr (.inr hm)))
          have hb2 : (head != (t.me : Int)) = false := by simp [hm]
          clear hm hT
          go_enter Try.func14, Try.ntmps14
          go_wp2_with (go_at_call 18; refine (turns_any _ _ _ _ _ _ _ ht).mono ?_; rintro e w1 ⟨rfl, rfl⟩; rw [HT.out])
          go_ret
          exact quietI hs2.out.symm ⟨0, rfl⟩
        · have hs2 := Lib.hid (T.above_head hT h0 h3 hm)
          have hb2 : (head != (t.me : Int)) = true := by simp [hm]
          clear hm hT
          go_enter Try.func14, Try.ntmps14
          go_wp2_with (go_at_call 18; refine (turns_any _ _ _ _ _ _ _ ht).mono ?_; rintro e w1 ⟨rfl, rfl⟩; rw [HT.out])
          go_ret
          exact quietI hs2.out.symm ⟨0, rfl⟩
      · have hs2 := Lib.hid (T.above_none hT (.inr (.inl (by omega))))
        clear hT
        go_enter Try.func14, Try.ntmps14
        go_wp2_with (go_at_call 18; refine (turns_any _ _ _ _ _ _ _ ht).mono ?_; rintro e w1 ⟨rfl, rfl⟩; rw [HT.out])
        go_ret
        exact quietI hs2.out.symm ⟨0, rfl⟩
    · have hs2 := Lib.hid (T.above_none hT (.inl (by omega)))
      clear hT
      go_enter Try.func14, Try.ntmps14
      go_wp2_with (go_at_call 18; refine (turns_any _ _ _ _ _ _ _ ht).mono ?_; rintro e w1 ⟨rfl, rfl⟩; rw [HT.out])
      go_ret
      exact quietI hs2.out.symm ⟨0, rfl⟩

theorem trPost {g r cap : Nat} {t t' : T} {w w' : World} (h : t = t') (ht : Tr w' g r cap t) (hm : Mod (fun k => k = g) w w') : TrPost g r cap t' w (.returned (.tuple #[])) w' := ⟨rfl, h ▸ ht, hm⟩

theorem hear_yes {t : T} {src : Int} (h : t.at = src) (clock : Int) : t.hear src clock = { t with time := clock } := by unfold T.hear; rw [if_pos h]
theorem hear_no {t : T} {src : Int} (h : ¬ t.at = src) (clock : Int) : t.hear src clock = t := by unfold T.hear; rw [if_neg h]

set_option maxHeartbeats 400000 in
theorem hear_any (g r cap : Nat) (t : T) (src clock : Int) (w : World) (ht : Tr w g r cap t) (hk : t.ok) :
    Calls Try.prog 10 #[.pointer (some ⟨g, 0, none⟩), .int .i64 src, .int .i64 clock] w (TrPost g r cap (t.hear src clock) w) := by
  obtain ⟨c0, c1, c2, c3⟩ := ht.cells
  have f3 := ht.free 3
  have hp := hk.2.1
  have hr := ht.2.1 t.place hp
  have hcap : (rowL t.me).length ≤ 5 := (rowL_pos t.me hk.1).2
  have hat : Hid (t.at = (rowL t.me).getD t.place 0) := rfl
  have Ht := Lib.hid ht
  generalize (rowL t.me).getD t.place 0 = v at hr hat
  generalize (rowL t.me).length = n at c1 hp hcap
  have hp2 : (t.place : Int) < (n : Int) := by omega
  by_cases hv : v = src
  · have hs := Lib.hid (hear_yes (hat.out.trans hv) clock)
    have hb : (v == src) = true := by simp [hv]
    clear hv ht
    go_enter Try.func10, Try.ntmps10
    go_wp2_with fail
    go_quiet (fail)
    go_wp2
    go_end0
    refine trPost hs.out.symm ((Ht.out.mod (Mod.drewN (S := fun _ => False) w nq) (fun h => h) (fun h => h)).setTime clock) ((Mod.drewN w nq).trans (Mod.cellOf g 3 _))
  · have hs := Lib.hid (hear_no (fun e => hv (hat.out.symm.trans e)) clock)
    have hb : (v == src) = false := by simp [hv]
    clear hv ht
    go_enter Try.func10, Try.ntmps10
    go_wp2_with fail
    go_quiet (fail)
    go_wp2
    go_end0
    refine trPost hs.out.symm (Ht.out.mod (Mod.drewN (S := fun _ => False) w nq) (fun h => h) (fun h => h)) (Mod.drewN w nq)

theorem tick_no {t : T} {head : Int} {behind : Bool} (h : t.turns head behind = false) (clock : Int) : t.tick head behind clock = { t with time := clock } := by
  unfold T.tick; rw [if_neg (by simp [h])]
theorem tick_yes {t : T} {head : Int} {behind : Bool} (h : t.turns head behind = true) {clock : Int} (hc : t.time ≤ clock ∧ 15 ≤ clock - t.time) :
    t.tick head behind clock = ⟨t.me, (t.place + 1) % (rowL t.me).length, clock⟩ := by
  unfold T.tick; rw [if_pos h, if_pos hc]
theorem tick_wait {t : T} {head : Int} {behind : Bool} (h : t.turns head behind = true) {clock : Int} (hc : ¬ (t.time ≤ clock ∧ 15 ≤ clock - t.time)) : t.tick head behind clock = t := by
  unfold T.tick; rw [if_pos h, if_neg hc]

set_option maxHeartbeats 1000000 in
theorem tick_any (g r cap : Nat) (t : T) (head : Int) (behind : Bool) (clock : Int) (w : World) (ht : Tr w g r cap t) (hk : t.ok) (hc1 : -9223372036854775808 ≤ clock) (hc2 : clock ≤ 9223372036854775807) :
    Calls Try.prog 12 #[.pointer (some ⟨g, 0, none⟩), .int .i64 head, .bool behind, .int .i64 clock] w (TrPost g r cap (t.tick head behind clock) w) := by
  obtain ⟨c0, c1, c2, c3⟩ := ht.cells
  have f2 := ht.free 2
  have f3 := ht.free 3
  have hp := hk.2.1
  have ht1 := hk.2.2.1
  have ht2 := hk.2.2.2
  have hcap := rowL_pos t.me hk.1
  have Ht := Lib.hid ht
  cases hT : t.turns head behind with
  | false =>
    have hs := Lib.hid (tick_no hT clock)
    have HT := Lib.hid hT; clear hT ht
    go_enter Try.func12, Try.ntmps12
    go_wp2_with (go_at_call 18; refine (turns_any _ _ _ _ _ _ _ Ht.out).mono ?_; rintro e w1 ⟨rfl, rfl⟩; rw [HT.out])
    go_end0
    exact trPost hs.out.symm (Ht.out.setTime clock) (Mod.cellOf g 3 _)
  | true =>
    by_cases h1 : t.time ≤ clock
    · by_cases h2 : 15 ≤ clock - t.time
      · have hs := Lib.hid (tick_yes hT ⟨h1, h2⟩)
        have HT := Lib.hid hT; clear hT ht
        generalize (rowL t.me).length = n at *
        have hu := uwrap_sub clock t.time hc1 hc2 ht1 h1
        go_enter Try.func12, Try.ntmps12
        go_wp2_with (go_at_call 18; refine (turns_any _ _ _ _ _ _ _ Ht.out).mono ?_; rintro e w1 ⟨rfl, rfl⟩; rw [HT.out])
        go_region
        go_wp2
        go_end0
        refine trPost hs.out.symm ?_ ?_
        · have h9 := ((Ht.out.setPlace ((t.place + 1) % n)).setTime clock).mod (Mod.drewN (S := fun _ => False) _ 1) (fun h => h) (fun h => h)
          exact h9
        · exact ((Mod.cellOf g 2 _).trans (Mod.cellOf g 3 _)).trans (Mod.drewN _ 1)
      · have hs := Lib.hid (tick_wait hT (fun h => h2 h.2))
        have HT := Lib.hid hT; clear hT ht
        have hu := uwrap_sub clock t.time hc1 hc2 ht1 h1
        go_enter Try.func12, Try.ntmps12
        go_wp2_with (go_at_call 18; refine (turns_any _ _ _ _ _ _ _ Ht.out).mono ?_; rintro e w1 ⟨rfl, rfl⟩; rw [HT.out])
        go_end0
        exact trPost hs.out.symm Ht.out (Mod.refl _ _)
    · have hs := Lib.hid (tick_wait hT (fun h => h1 h.1))
      have HT := Lib.hid hT; clear hT ht
      go_enter Try.func12, Try.ntmps12
      go_wp2_with (go_at_call 18; refine (turns_any _ _ _ _ _ _ _ Ht.out).mono ?_; rintro e w1 ⟨rfl, rfl⟩; rw [HT.out])
      go_end0
      exact trPost hs.out.symm Ht.out (Mod.refl _ _)
end Go.Proofs.Ytbmnaimbognohaa
