/- Three numbers are sorted. -/
import Derived.Test.YtcleaamjfjnkkaaCo9
namespace Go.Proofs.Ytcleaamjfjnkkaa
open Go.RowKit Go.Joins

set_option maxRecDepth 100000 in
theorem nan_any (x : Int) (w : World) : Calls Try.prog 95 #[.int .i64 x] w (SameB false w) := by
  have hb : (x != x) = false := by simp
  go_enter Try.func95, Try.ntmps95
  go_wp2
  go_ret
  exact sameB rfl
set_option maxRecDepth 100000 in
theorem less_any (x y : Int) (w : World) : Calls Try.prog 85 #[.int .i64 x, .int .i64 y] w (SameB (decide (x < y)) w) := by
  go_enter Try.func85, Try.ntmps85
  go_wp2_with (go_at_call 95; refine (nan_any _ _).mono ?_; rintro e w1 ⟨rfl, rfl⟩)
  go_ret
  exact sameB rfl
/-- three numbers that lie in a block. -/
def Tri (w : World) (g : Nat) (x y z : Int) : Prop := (w.cell? ⟨g, 0, none⟩ = some (.int .i64 x) ∧ w.cell? ⟨g, 1, none⟩ = some (.int .i64 y) ∧ w.cell? ⟨g, 2, none⟩ = some (.int .i64 z)) ∧ ∀ i, w.frozen? ⟨g, i, none⟩ = false
def SortP (g : Nat) (t : Int × Int × Int) (w w' : World) : Prop := Tri w' g t.1 t.2.1 t.2.2 ∧ Mod (fun k => k = g) w w'
theorem sortP_drew {g : Nat} {t : Int × Int × Int} {W w : World} (h : SortP g t W w) : SortP g t W w.drew := ⟨h.1, h.2.trans (Mod.bel (Below.refl _ _).drew)⟩
def ins1 (x y z : Int) : Int × Int × Int := if y < x then (y, x, z) else (x, y, z)
def ins2 (t : Int × Int × Int) : Int × Int × Int := if t.2.2 < t.2.1 then (if t.2.2 < t.1 then (t.2.2, t.1, t.2.1) else (t.1, t.2.2, t.2.1)) else t
def stI (x y z : Int) : Nat → Int × Int × Int
  | 0 => (x, y, z)
  | 1 => (x, y, z)
  | 2 => ins1 x y z
  | _ + 3 => ins2 (ins1 x y z)
def inn (x y z : Int) (i k : Nat) (t : Int × Int × Int) : Prop :=
  (i = 1 ∧ k = 1 ∧ t = (x, y, z)) ∨ (i = 1 ∧ k = 0 ∧ y < x ∧ t = (y, x, z)) ∨ (i = 2 ∧ k = 2 ∧ t = ins1 x y z) ∨
  (i = 2 ∧ k = 1 ∧ ∃ a b c, ins1 x y z = (a, b, c) ∧ c < b ∧ t = (a, c, b)) ∨ (i = 2 ∧ k = 0 ∧ ∃ a b c, ins1 x y z = (a, b, c) ∧ c < b ∧ c < a ∧ t = (c, a, b))
theorem tri_swap {W w : World} {g j : Nat} {t u : Int × Int × Int} {lo hi : Int} (h : SortP g t W w) (hl : (j = 1 ∧ t = (lo, hi, t.2.2) ∧ u = (hi, lo, t.2.2)) ∨ (j = 2 ∧ t = (t.1, lo, hi) ∧ u = (t.1, hi, lo))) :
    SortP g u W ((w.setCell ⟨g, j, none⟩ (.int .i64 lo)).setCell ⟨g, j - 1, none⟩ (.int .i64 hi)) := by
  obtain ⟨⟨⟨t0, t1, t2⟩, tf⟩, hm⟩ := h
  refine ⟨⟨?_, fun i => ?_⟩, hm.trans ((Mod.cellOf g j _).trans (Mod.cellOf g (j - 1) _))⟩
  · rcases hl with ⟨rfl, e1, e2⟩ | ⟨rfl, e1, e2⟩
    · rw [e1] at t0 t1 t2; subst e2
      exact ⟨World.cell?_setCell_same _ _ _ (set_other t0 (by omega)), set_other (World.cell?_setCell_same _ _ _ t1) (by omega), set_other (set_other t2 (by omega)) (by omega)⟩
    · rw [e1] at t0 t1 t2; subst e2
      exact ⟨set_other (set_other t0 (by omega)) (by omega), World.cell?_setCell_same _ _ _ (set_other t1 (by omega)), set_other (World.cell?_setCell_same _ _ _ t2) (by omega)⟩
  · have h := tf i
    rw [World.frozen?_setCell, World.frozen?_setCell]; exact h
set_option linter.unusedSimpArgs false in
set_option linter.unusedVariables false in
set_option maxHeartbeats 8000000 in
set_option maxRecDepth 100000 in
theorem insert_any (x y z : Int) (g cap : Nat) (w : World) (h : Tri w g x y z) :
    Calls Try.prog 79 #[.slice (some ⟨g, 0, none⟩) 3 cap, .int .i64 0, .int .i64 3] w (Tup0 (SortP g (ins2 (ins1 x y z)) w)) := by
  have mixed : Try.prog.follows .mixedOrders = true := by kernel_rfl
  have H := Lib.hid (show SortP g (x, y, z) w w from ⟨h, Mod.refl _ _⟩)
  clear h
  go_enter Try.func79, Try.ntmps79
  go_wp2
  go_loopg [6, 7] 2 (fun k v6 _ wr => ∃ i : Nat, i + k = 3 ∧ 1 ≤ i ∧ v6 = .int .i64 (i : Int) ∧ SortP g (stI x y z i) w wr)
  case atStart => exact ⟨1, rfl, by omega, rfl, H.out⟩
  case round =>
    obtain ⟨i, hik, hi1, rfl, hSo⟩ := hrel
    clear H
    obtain ⟨go, rfl⟩ : ∃ n, n = gk := ⟨gk, rfl⟩
    have HSo := Lib.hid hSo
    clear hSo
    by_cases hlt3 : i < 3
    · have hli : (i : Int) < 3 := by omega
      have HIK := Lib.hid (And.intro hik hlt3)
      have hst0 : inn x y z i i (stI x y z i) := by
        rcases (show i = 1 ∨ i = 2 by omega) with rfl | rfl
        · exact .inl ⟨rfl, rfl, rfl⟩
        · exact .inr (.inr (.inl ⟨rfl, rfl, rfl⟩))
      have hst := Lib.hid hst0
      clear hst0
      generalize stI x y z i = s0 at *
      go_wp2
      go_loopg [7] i (fun gk2 v7 wx => ∃ t, v7 = .int .i64 (gk2 : Int) ∧ inn x y z i gk2 t ∧ SortP g t w wx)
      case atStart => exact ⟨s0, rfl, hst.out, HSo.out⟩
      case round =>
        obtain ⟨t, rfl, hin, hS⟩ := hrel
        rcases hin with ⟨rfl, rfl, rfl⟩ | ⟨rfl, rfl, hyx, rfl⟩ | ⟨rfl, rfl, ht⟩ | ⟨rfl, rfl, a, b, c, hs, hcb, rfl⟩ | ⟨rfl, rfl, a, b, c, hs, hcb, hca, rfl⟩
        · obtain ⟨⟨t0, t1, t2⟩, tf⟩ := hS.1
          simp only at t0 t1 t2
          have f0 := tf 0
          have f1 := tf 1
          have f2 := tf 2
          have HS := Lib.hid hS
          clear hS tf
          by_cases hlt : y < x
          · have hd : decide (y < x) = true := by simpa using hlt
            have HLT := Lib.hid hlt
            clear hlt
            go_upto_region 4 with fail
            go_quiet ((go_at_call 85; exact SameB.quiet (less_any _ _ _)))
            have HQ := Lib.hid (show SortP g _ w (wr.drewN nq) from ⟨HS.out.1, HS.out.2.trans (Mod.drewN wr nq)⟩)
            go_upto_region 6 with fail
            generalize wr.drewN nq = Y at *
            have hw0 : IntKind.i64.wrap 0 = 0 := by decide
            have hw1 : IntKind.i64.wrap 1 = 1 := by decide
            refine wp_region_noPanic ?_
            refine wp_region_lim (fun w' => w'.cell? ⟨g, 1, none⟩ = some (.int .i64 y) ∧ w'.cell? ⟨g, 0, none⟩ = some (.int .i64 x)) (fun i => decide (i < 14) && (decide (i ≠ 2) && (decide (i ≠ 3) && decide (i ≠ 4)))) (fun i => decide (i = 2) || (decide (i = 3) || decide (i = 4))) (by kernel_rfl) (by kernel_rfl) ⟨HQ.out.1.1.2.1, HQ.out.1.1.1⟩ (fun HT hS0 => ?_)
            refine tkF 2 35 (v := ?_) ?_ ?_
            rotate_left
            · (intro w5 hSw; go_simp; (try with_reducible rfl))
            try simp only [s1, s2, s3]
            refine tkF 3 36 (v := ?_) ?_ ?_
            rotate_left
            · (intro w5 hSw; go_simp; (try with_reducible rfl))
            try simp only [s1, s2, s3]
            refine tkF 4 37 (v := ?_) ?_ ?_
            rotate_left
            · (intro w5 hSw; go_simp; (try with_reducible rfl))
            try simp only [s1, s2, s3]
            refine tkD HT 0 33 (v := ?_) ?_ ?_
            rotate_left
            · (intro w5 hSw; obtain ⟨q1, q2⟩ := hSw; go_simp; (try with_reducible rfl))
            try simp only [s1, s2, s3]
            refine tkD HT 1 34 (v := ?_) ?_ ?_
            rotate_left
            · (intro w5 hSw; obtain ⟨q1, q2⟩ := hSw; go_simp; (try with_reducible rfl))
            try simp only [s1, s2, s3]
            refine tkD HT 5 38 (v := ?_) ?_ ?_
            rotate_left
            · (intro w5 hSw; obtain ⟨q1, q2⟩ := hSw; go_simp; (try with_reducible rfl))
            try simp only [s1, s2, s3]
            refine tkD HT 6 39 (v := ?_) ?_ ?_
            rotate_left
            · (intro w5 hSw; obtain ⟨q1, q2⟩ := hSw; go_simp; (try with_reducible rfl))
            try simp only [s1, s2, s3]
            refine tkD HT 7 40 (v := ?_) ?_ ?_
            rotate_left
            · (intro w5 hSw; obtain ⟨q1, q2⟩ := hSw; go_simp; (try with_reducible rfl))
            try simp only [s1, s2, s3]
            refine tkD HT 8 41 (v := ?_) ?_ ?_
            rotate_left
            · (intro w5 hSw; obtain ⟨q1, q2⟩ := hSw; go_simp; (try with_reducible rfl))
            try simp only [s1, s2, s3]
            refine tkD HT 9 42 (v := ?_) ?_ ?_
            rotate_left
            · (intro w5 hSw; obtain ⟨q1, q2⟩ := hSw; go_simp; (try with_reducible rfl))
            try simp only [s1, s2, s3]
            refine tkD HT 10 43 (v := ?_) ?_ ?_
            rotate_left
            · (intro w5 hSw; obtain ⟨q1, q2⟩ := hSw; go_simp; (try with_reducible rfl))
            try simp only [s1, s2, s3]
            refine tkD HT 11 44 (v := ?_) ?_ ?_
            rotate_left
            · (intro w5 hSw; obtain ⟨q1, q2⟩ := hSw; go_simp; (try with_reducible rfl))
            try simp only [s1, s2, s3]
            refine tkD HT 12 45 (v := ?_) ?_ ?_
            rotate_left
            · (intro w5 hSw; obtain ⟨q1, q2⟩ := hSw; go_simp; (try with_reducible rfl))
            try simp only [s1, s2, s3]
            refine tkD HT 13 46 (v := ?_) ?_ ?_
            rotate_left
            · (intro w5 hSw; obtain ⟨q1, q2⟩ := hSw; go_simp; (try with_reducible rfl))
            try simp only [s1, s2, s3]
            obtain ⟨⟨y0, y1, y2⟩, yf⟩ := HQ.out.1
            simp only at y0 y1 y2
            have yf0 := yf 0
            have yf1 := yf 1
            have yf2 := yf 2
            clear yf
            refine tkL 14 (fun K5 hK => ?_)
            go_simp
            refine hK.out _ _ ?_
            clear hK K5
            try simp only [Act.put, s1, s2, s3]
            refine tkL 15 (fun K5 hK => ?_)
            go_simp
            refine hK.out _ _ ?_
            clear hK K5
            try simp only [Act.put, s1, s2, s3]
            refine tkL 16 (fun K5 hK => ?_)
            go_simp
            refine hK.out _ _ ?_
            clear hK K5
            try simp only [Act.put, s1, s2, s3]
            refine tkL 17 (fun K5 hK => ?_)
            go_simp
            refine hK.out _ _ ?_
            clear hK K5
            try simp only [Act.put, s1, s2, s3]
            refine wpAnyM_done (by kernel_rfl) (NoPanic.normal ?_)
            go_wp2
            go_roundg 0
            case measure => omega
            case rel => exact ⟨_, by simp, .inr (.inl ⟨rfl, rfl, HLT.out, rfl⟩), sortP_drew (tri_swap (j := 1) HQ.out (.inl ⟨rfl, rfl, rfl⟩))⟩
          · have hd : decide (y < x) = false := by simpa using hlt
            have HLT := Lib.hid hlt
            clear hlt
            go_upto_region 4 with fail
            go_quiet ((go_at_call 85; exact SameB.quiet (less_any _ _ _)))
            have HQ := Lib.hid (show SortP g _ w (wr.drewN nq) from ⟨HS.out.1, HS.out.2.trans (Mod.drewN wr nq)⟩)
            go_wp2
            go_roundg (go - 1)
            case measure => omega
            case rel => exact ⟨2, by omega, by omega, by simp, (by rw [show stI x y z 2 = (x, y, z) from (by show ins1 x y z = _; unfold ins1; rw [if_neg (by have := HLT.out; omega)])]; exact HQ.out)⟩
        · have HYX := Lib.hid hyx
          clear hyx
          have j0 := (0 : Nat)
          obtain ⟨⟨t0, t1, t2⟩, tf⟩ := hS.1
          have HS := Lib.hid hS
          clear hS tf t0 t1 t2
          go_upto_region 4 with fail
          go_quiet (fail)
          have HQ := Lib.hid (show SortP g _ w (wr.drewN nq) from ⟨HS.out.1, HS.out.2.trans (Mod.drewN wr nq)⟩)
          go_wp2
          go_roundg (go - 1)
          case measure => omega
          case rel => exact ⟨2, by omega, by omega, by simp, (by rw [show stI x y z 2 = (y, x, z) from (by show ins1 x y z = _; unfold ins1; rw [if_pos (by have := HYX.out; omega)])]; exact HQ.out)⟩
        · obtain ⟨a, b, c⟩ := t
          have HT0 := Lib.hid ht
          clear ht
          obtain ⟨⟨t0, t1, t2⟩, tf⟩ := hS.1
          simp only at t0 t1 t2
          have f0 := tf 0
          have f1 := tf 1
          have f2 := tf 2
          have HS := Lib.hid hS
          clear hS tf
          by_cases hlt : c < b
          · have hd : decide (c < b) = true := by simpa using hlt
            have HLT := Lib.hid hlt
            clear hlt
            go_upto_region 4 with fail
            go_quiet ((go_at_call 85; exact SameB.quiet (less_any _ _ _)))
            have HQ := Lib.hid (show SortP g _ w (wr.drewN nq) from ⟨HS.out.1, HS.out.2.trans (Mod.drewN wr nq)⟩)
            go_upto_region 6 with fail
            generalize wr.drewN nq = Y at *
            have hw0 : IntKind.i64.wrap 0 = 0 := by decide
            have hw1 : IntKind.i64.wrap 1 = 1 := by decide
            refine wp_region_noPanic ?_
            refine wp_region_lim (fun w' => w'.cell? ⟨g, 2, none⟩ = some (.int .i64 c) ∧ w'.cell? ⟨g, 1, none⟩ = some (.int .i64 b)) (fun i => decide (i < 14) && (decide (i ≠ 2) && (decide (i ≠ 3) && decide (i ≠ 4)))) (fun i => decide (i = 2) || (decide (i = 3) || decide (i = 4))) (by kernel_rfl) (by kernel_rfl) ⟨HQ.out.1.1.2.2, HQ.out.1.1.2.1⟩ (fun HT hS0 => ?_)
            refine tkF 2 35 (v := ?_) ?_ ?_
            rotate_left
            · (intro w5 hSw; go_simp; (try with_reducible rfl))
            try simp only [s1, s2, s3]
            refine tkF 3 36 (v := ?_) ?_ ?_
            rotate_left
            · (intro w5 hSw; go_simp; (try with_reducible rfl))
            try simp only [s1, s2, s3]
            refine tkF 4 37 (v := ?_) ?_ ?_
            rotate_left
            · (intro w5 hSw; go_simp; (try with_reducible rfl))
            try simp only [s1, s2, s3]
            refine tkD HT 0 33 (v := ?_) ?_ ?_
            rotate_left
            · (intro w5 hSw; obtain ⟨q1, q2⟩ := hSw; go_simp; (try with_reducible rfl))
            try simp only [s1, s2, s3]
            refine tkD HT 1 34 (v := ?_) ?_ ?_
            rotate_left
            · (intro w5 hSw; obtain ⟨q1, q2⟩ := hSw; go_simp; (try with_reducible rfl))
            try simp only [s1, s2, s3]
            refine tkD HT 5 38 (v := ?_) ?_ ?_
            rotate_left
            · (intro w5 hSw; obtain ⟨q1, q2⟩ := hSw; go_simp; (try with_reducible rfl))
            try simp only [s1, s2, s3]
            refine tkD HT 6 39 (v := ?_) ?_ ?_
            rotate_left
            · (intro w5 hSw; obtain ⟨q1, q2⟩ := hSw; go_simp; (try with_reducible rfl))
            try simp only [s1, s2, s3]
            refine tkD HT 7 40 (v := ?_) ?_ ?_
            rotate_left
            · (intro w5 hSw; obtain ⟨q1, q2⟩ := hSw; go_simp; (try with_reducible rfl))
            try simp only [s1, s2, s3]
            refine tkD HT 8 41 (v := ?_) ?_ ?_
            rotate_left
            · (intro w5 hSw; obtain ⟨q1, q2⟩ := hSw; go_simp; (try with_reducible rfl))
            try simp only [s1, s2, s3]
            refine tkD HT 9 42 (v := ?_) ?_ ?_
            rotate_left
            · (intro w5 hSw; obtain ⟨q1, q2⟩ := hSw; go_simp; (try with_reducible rfl))
            try simp only [s1, s2, s3]
            refine tkD HT 10 43 (v := ?_) ?_ ?_
            rotate_left
            · (intro w5 hSw; obtain ⟨q1, q2⟩ := hSw; go_simp; (try with_reducible rfl))
            try simp only [s1, s2, s3]
            refine tkD HT 11 44 (v := ?_) ?_ ?_
            rotate_left
            · (intro w5 hSw; obtain ⟨q1, q2⟩ := hSw; go_simp; (try with_reducible rfl))
            try simp only [s1, s2, s3]
            refine tkD HT 12 45 (v := ?_) ?_ ?_
            rotate_left
            · (intro w5 hSw; obtain ⟨q1, q2⟩ := hSw; go_simp; (try with_reducible rfl))
            try simp only [s1, s2, s3]
            refine tkD HT 13 46 (v := ?_) ?_ ?_
            rotate_left
            · (intro w5 hSw; obtain ⟨q1, q2⟩ := hSw; go_simp; (try with_reducible rfl))
            try simp only [s1, s2, s3]
            obtain ⟨⟨y0, y1, y2⟩, yf⟩ := HQ.out.1
            simp only at y0 y1 y2
            have yf0 := yf 0
            have yf1 := yf 1
            have yf2 := yf 2
            clear yf
            refine tkL 14 (fun K5 hK => ?_)
            go_simp
            refine hK.out _ _ ?_
            clear hK K5
            try simp only [Act.put, s1, s2, s3]
            refine tkL 15 (fun K5 hK => ?_)
            go_simp
            refine hK.out _ _ ?_
            clear hK K5
            try simp only [Act.put, s1, s2, s3]
            refine tkL 16 (fun K5 hK => ?_)
            go_simp
            refine hK.out _ _ ?_
            clear hK K5
            try simp only [Act.put, s1, s2, s3]
            refine tkL 17 (fun K5 hK => ?_)
            go_simp
            refine hK.out _ _ ?_
            clear hK K5
            try simp only [Act.put, s1, s2, s3]
            refine wpAnyM_done (by kernel_rfl) (NoPanic.normal ?_)
            go_wp2
            go_roundg 1
            case measure => omega
            case rel => exact ⟨_, by simp, .inr (.inr (.inr (.inl ⟨rfl, rfl, a, b, c, HT0.out.symm, HLT.out, rfl⟩))), sortP_drew (tri_swap (j := 2) HQ.out (.inr ⟨rfl, rfl, rfl⟩))⟩
          · have hd : decide (c < b) = false := by simpa using hlt
            have HLT := Lib.hid hlt
            clear hlt
            go_upto_region 4 with fail
            go_quiet ((go_at_call 85; exact SameB.quiet (less_any _ _ _)))
            have HQ := Lib.hid (show SortP g _ w (wr.drewN nq) from ⟨HS.out.1, HS.out.2.trans (Mod.drewN wr nq)⟩)
            go_wp2
            go_roundg (go - 1)
            case measure => omega
            case rel => exact ⟨3, by omega, by omega, by simp, (by rw [show stI x y z 3 = (a, b, c) from (by show ins2 (ins1 x y z) = _; rw [← HT0.out]; unfold ins2; simp only; rw [if_neg (by have := HLT.out; omega)])]; exact HQ.out)⟩
        · have HT0 := Lib.hid hs
          have HCB := Lib.hid hcb
          clear hs hcb
          obtain ⟨⟨t0, t1, t2⟩, tf⟩ := hS.1
          simp only at t0 t1 t2
          have f0 := tf 0
          have f1 := tf 1
          have f2 := tf 2
          have HS := Lib.hid hS
          clear hS tf
          by_cases hlt : c < a
          · have hd : decide (c < a) = true := by simpa using hlt
            have HLT := Lib.hid hlt
            clear hlt
            go_upto_region 4 with fail
            go_quiet ((go_at_call 85; exact SameB.quiet (less_any _ _ _)))
            have HQ := Lib.hid (show SortP g _ w (wr.drewN nq) from ⟨HS.out.1, HS.out.2.trans (Mod.drewN wr nq)⟩)
            go_upto_region 6 with fail
            generalize wr.drewN nq = Y at *
            have hw0 : IntKind.i64.wrap 0 = 0 := by decide
            have hw1 : IntKind.i64.wrap 1 = 1 := by decide
            refine wp_region_noPanic ?_
            refine wp_region_lim (fun w' => w'.cell? ⟨g, 1, none⟩ = some (.int .i64 c) ∧ w'.cell? ⟨g, 0, none⟩ = some (.int .i64 a)) (fun i => decide (i < 14) && (decide (i ≠ 2) && (decide (i ≠ 3) && decide (i ≠ 4)))) (fun i => decide (i = 2) || (decide (i = 3) || decide (i = 4))) (by kernel_rfl) (by kernel_rfl) ⟨HQ.out.1.1.2.1, HQ.out.1.1.1⟩ (fun HT hS0 => ?_)
            refine tkF 2 35 (v := ?_) ?_ ?_
            rotate_left
            · (intro w5 hSw; go_simp; (try with_reducible rfl))
            try simp only [s1, s2, s3]
            refine tkF 3 36 (v := ?_) ?_ ?_
            rotate_left
            · (intro w5 hSw; go_simp; (try with_reducible rfl))
            try simp only [s1, s2, s3]
            refine tkF 4 37 (v := ?_) ?_ ?_
            rotate_left
            · (intro w5 hSw; go_simp; (try with_reducible rfl))
            try simp only [s1, s2, s3]
            refine tkD HT 0 33 (v := ?_) ?_ ?_
            rotate_left
            · (intro w5 hSw; obtain ⟨q1, q2⟩ := hSw; go_simp; (try with_reducible rfl))
            try simp only [s1, s2, s3]
            refine tkD HT 1 34 (v := ?_) ?_ ?_
            rotate_left
            · (intro w5 hSw; obtain ⟨q1, q2⟩ := hSw; go_simp; (try with_reducible rfl))
            try simp only [s1, s2, s3]
            refine tkD HT 5 38 (v := ?_) ?_ ?_
            rotate_left
            · (intro w5 hSw; obtain ⟨q1, q2⟩ := hSw; go_simp; (try with_reducible rfl))
            try simp only [s1, s2, s3]
            refine tkD HT 6 39 (v := ?_) ?_ ?_
            rotate_left
            · (intro w5 hSw; obtain ⟨q1, q2⟩ := hSw; go_simp; (try with_reducible rfl))
            try simp only [s1, s2, s3]
            refine tkD HT 7 40 (v := ?_) ?_ ?_
            rotate_left
            · (intro w5 hSw; obtain ⟨q1, q2⟩ := hSw; go_simp; (try with_reducible rfl))
            try simp only [s1, s2, s3]
            refine tkD HT 8 41 (v := ?_) ?_ ?_
            rotate_left
            · (intro w5 hSw; obtain ⟨q1, q2⟩ := hSw; go_simp; (try with_reducible rfl))
            try simp only [s1, s2, s3]
            refine tkD HT 9 42 (v := ?_) ?_ ?_
            rotate_left
            · (intro w5 hSw; obtain ⟨q1, q2⟩ := hSw; go_simp; (try with_reducible rfl))
            try simp only [s1, s2, s3]
            refine tkD HT 10 43 (v := ?_) ?_ ?_
            rotate_left
            · (intro w5 hSw; obtain ⟨q1, q2⟩ := hSw; go_simp; (try with_reducible rfl))
            try simp only [s1, s2, s3]
            refine tkD HT 11 44 (v := ?_) ?_ ?_
            rotate_left
            · (intro w5 hSw; obtain ⟨q1, q2⟩ := hSw; go_simp; (try with_reducible rfl))
            try simp only [s1, s2, s3]
            refine tkD HT 12 45 (v := ?_) ?_ ?_
            rotate_left
            · (intro w5 hSw; obtain ⟨q1, q2⟩ := hSw; go_simp; (try with_reducible rfl))
            try simp only [s1, s2, s3]
            refine tkD HT 13 46 (v := ?_) ?_ ?_
            rotate_left
            · (intro w5 hSw; obtain ⟨q1, q2⟩ := hSw; go_simp; (try with_reducible rfl))
            try simp only [s1, s2, s3]
            obtain ⟨⟨y0, y1, y2⟩, yf⟩ := HQ.out.1
            simp only at y0 y1 y2
            have yf0 := yf 0
            have yf1 := yf 1
            have yf2 := yf 2
            clear yf
            refine tkL 14 (fun K5 hK => ?_)
            go_simp
            refine hK.out _ _ ?_
            clear hK K5
            try simp only [Act.put, s1, s2, s3]
            refine tkL 15 (fun K5 hK => ?_)
            go_simp
            refine hK.out _ _ ?_
            clear hK K5
            try simp only [Act.put, s1, s2, s3]
            refine tkL 16 (fun K5 hK => ?_)
            go_simp
            refine hK.out _ _ ?_
            clear hK K5
            try simp only [Act.put, s1, s2, s3]
            refine tkL 17 (fun K5 hK => ?_)
            go_simp
            refine hK.out _ _ ?_
            clear hK K5
            try simp only [Act.put, s1, s2, s3]
            refine wpAnyM_done (by kernel_rfl) (NoPanic.normal ?_)
            go_wp2
            go_roundg 0
            case measure => omega
            case rel => exact ⟨_, by simp, .inr (.inr (.inr (.inr ⟨rfl, rfl, a, b, c, HT0.out, HCB.out, HLT.out, rfl⟩))), sortP_drew (tri_swap (j := 1) HQ.out (.inl ⟨rfl, rfl, rfl⟩))⟩
          · have hd : decide (c < a) = false := by simpa using hlt
            have HLT := Lib.hid hlt
            clear hlt
            go_upto_region 4 with fail
            go_quiet ((go_at_call 85; exact SameB.quiet (less_any _ _ _)))
            have HQ := Lib.hid (show SortP g _ w (wr.drewN nq) from ⟨HS.out.1, HS.out.2.trans (Mod.drewN wr nq)⟩)
            go_wp2
            go_roundg (go - 1)
            case measure => omega
            case rel => exact ⟨3, by omega, by omega, by simp, (by rw [show stI x y z 3 = (a, c, b) from (by show ins2 (ins1 x y z) = _; rw [HT0.out]; unfold ins2; simp only; rw [if_pos (by have := HCB.out; omega), if_neg (by have := HLT.out; omega)])]; exact HQ.out)⟩
        · have HT0 := Lib.hid hs
          have HCB := Lib.hid hcb
          have HCA := Lib.hid hca
          clear hs hcb hca
          have j0 := (0 : Nat)
          obtain ⟨⟨t0, t1, t2⟩, tf⟩ := hS.1
          have HS := Lib.hid hS
          clear hS tf t0 t1 t2
          go_upto_region 4 with fail
          go_quiet (fail)
          have HQ := Lib.hid (show SortP g _ w (wr.drewN nq) from ⟨HS.out.1, HS.out.2.trans (Mod.drewN wr nq)⟩)
          go_wp2
          go_roundg (go - 1)
          case measure => omega
          case rel => exact ⟨3, by omega, by omega, by simp, (by rw [show stI x y z 3 = (c, a, b) from (by show ins2 (ins1 x y z) = _; rw [HT0.out]; unfold ins2; simp only; rw [if_pos (by have := HCB.out; omega), if_pos (by have := HCA.out; omega)])]; exact HQ.out)⟩
    · obtain rfl : i = 3 := by omega
      go_wp2
      go_end0
      exact ⟨rfl, HSo.out⟩
end Go.Proofs.Ytcleaamjfjnkkaa
