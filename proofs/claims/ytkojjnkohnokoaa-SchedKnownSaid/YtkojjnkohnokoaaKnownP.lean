/- The chapter's examples: states, and what a nil scheduler does. -/
import Derived.Test.YtkojjnkohnokoaaWorks
namespace Go.Proofs.Ytkojjnkohnokoaa
open Go.RowKit Go.Joins

/-- what waits for the links 0, 2, 3, 5, and their credits. -/
def K (q0 q2 q3 q5 : List BA) (c0 c2 c3 c5 : Int) : St :=
  ⟨fun i => match i with | 0 => q0 | 2 => q2 | 3 => q3 | 5 => q5 | _ => [], fun i => match i with | 0 => c0 | 2 => c2 | 3 => c3 | 5 => c5 | _ => 0⟩
theorem k_new : new0 = K [] [] [] [] 0 0 0 0 := by
  simp only [new0, K, St.mk.injEq]
  constructor <;> (funext i; split <;> rfl)
variable {q0 q2 q3 q5 : List BA} {c0 c2 c3 c5 : Int} {b : BA}
theorem put_go {s : St} {k : Nat} (hk : k < 6) (h0 : 0 < b.size) (h1 : b.size ≤ 8192) (hl : (s.q k).length < 4) : putE s k b = 0 ∧ putS s k b = { s with q := upd s.q k (s.q k ++ [b]) } := by
  have e1 : ¬ ((k : Int) < 0 ∨ 6 ≤ (k : Int) ∨ b.size = 0) := by omega
  have e2 : ¬ 8192 < b.size := by omega
  have e3 : ¬ 4 ≤ (s.q k).length := by omega
  exact ⟨by simp only [putE, if_neg e1, if_neg e2, Int.toNat_natCast, if_neg e3], by simp only [putS, if_neg e1, if_neg e2, Int.toNat_natCast, if_neg e3]⟩
theorem k_put0 (h0 : 0 < b.size) (h1 : b.size ≤ 8192) (hl : q0.length < 4) : putE (K q0 q2 q3 q5 c0 c2 c3 c5) 0 b = 0 ∧ putS (K q0 q2 q3 q5 c0 c2 c3 c5) 0 b = K (q0 ++ [b]) q2 q3 q5 c0 c2 c3 c5 := by
  obtain ⟨e1, e2⟩ := put_go (s := K q0 q2 q3 q5 c0 c2 c3 c5) (k := 0) (by omega) h0 h1 hl
  refine ⟨e1, e2.trans ?_⟩
  simp only [K, St.mk.injEq, and_true]
  funext i
  unfold upd
  split <;> split <;> simp_all
theorem k_put2 (h0 : 0 < b.size) (h1 : b.size ≤ 8192) (hl : q2.length < 4) : putE (K q0 q2 q3 q5 c0 c2 c3 c5) 2 b = 0 ∧ putS (K q0 q2 q3 q5 c0 c2 c3 c5) 2 b = K q0 (q2 ++ [b]) q3 q5 c0 c2 c3 c5 := by
  obtain ⟨e1, e2⟩ := put_go (s := K q0 q2 q3 q5 c0 c2 c3 c5) (k := 2) (by omega) h0 h1 hl
  refine ⟨e1, e2.trans ?_⟩
  simp only [K, St.mk.injEq, and_true]
  funext i
  unfold upd
  split <;> split <;> simp_all
theorem k_put3 (h0 : 0 < b.size) (h1 : b.size ≤ 8192) (hl : q3.length < 4) : putE (K q0 q2 q3 q5 c0 c2 c3 c5) 3 b = 0 ∧ putS (K q0 q2 q3 q5 c0 c2 c3 c5) 3 b = K q0 q2 (q3 ++ [b]) q5 c0 c2 c3 c5 := by
  obtain ⟨e1, e2⟩ := put_go (s := K q0 q2 q3 q5 c0 c2 c3 c5) (k := 3) (by omega) h0 h1 hl
  refine ⟨e1, e2.trans ?_⟩
  simp only [K, St.mk.injEq, and_true]
  funext i
  unfold upd
  split <;> split <;> simp_all
theorem k_put5 (h0 : 0 < b.size) (h1 : b.size ≤ 8192) (hl : q5.length < 4) : putE (K q0 q2 q3 q5 c0 c2 c3 c5) 5 b = 0 ∧ putS (K q0 q2 q3 q5 c0 c2 c3 c5) 5 b = K q0 q2 q3 (q5 ++ [b]) c0 c2 c3 c5 := by
  obtain ⟨e1, e2⟩ := put_go (s := K q0 q2 q3 q5 c0 c2 c3 c5) (k := 5) (by omega) h0 h1 hl
  refine ⟨e1, e2.trans ?_⟩
  simp only [K, St.mk.injEq, and_true]
  funext i
  unfold upd
  split <;> split <;> simp_all
theorem k_full (h0 : 0 < b.size) (h1 : b.size ≤ 8192) (hl : 4 ≤ q5.length) : putE (K q0 q2 q3 q5 c0 c2 c3 c5) 5 b = 7 ∧ putS (K q0 q2 q3 q5 c0 c2 c3 c5) 5 b = K q0 q2 q3 q5 c0 c2 c3 c5 := by
  have e1 : ¬ ((5 : Int) < 0 ∨ 6 ≤ (5 : Int) ∨ b.size = 0) := by omega
  have e2 : ¬ 8192 < b.size := by omega
  have e3 : 4 ≤ ((K q0 q2 q3 q5 c0 c2 c3 c5).q ((5 : Int).toNat)).length := hl
  exact ⟨by simp only [putE, if_neg e1, if_neg e2, if_pos e3], by simp only [putS, if_neg e1, if_neg e2, if_pos e3]⟩
theorem put_arg {s : St} {lk : Int} (h : lk < 0 ∨ 6 ≤ lk ∨ b.size = 0) : putE s lk b = 2 ∧ putS s lk b = s := ⟨by simp only [putE, if_pos h], by simp only [putS, if_pos h]⟩
theorem put_long {s : St} {lk : Int} (h : ¬ (lk < 0 ∨ 6 ≤ lk ∨ b.size = 0)) (h2 : 8192 < b.size) : putE s lk b = 3 ∧ putS s lk b = s := ⟨by simp only [putE, if_neg h, if_pos h2], by simp only [putS, if_neg h, if_pos h2]⟩
theorem k_round : roundS (K q0 q2 q3 q5 c0 c2 c3 c5) = K (lround q0 c0).2.1 (lround q2 c2).2.1 (lround q3 c3).2.1 (lround q5 c5).2.1 (lround q0 c0).2.2 (lround q2 c2).2.2 (lround q3 c3).2.2 (lround q5 c5).2.2 ∧
    roundF (K q0 q2 q3 q5 c0 c2 c3 c5) = ((lround q0 c0).1.map fun b => (0, b)) ++ ((lround q2 c2).1.map fun b => (2, b)) ++ ((lround q3 c3).1.map fun b => (3, b)) ++ ((lround q5 c5).1.map fun b => (5, b)) := by
  constructor
  · have hx : ∀ s t : St, s.q = t.q → s.c = t.c → s = t := fun s t h1 h2 => by cases s; cases t; simp_all
    refine hx _ _ (funext fun i => ?_) (funext fun i => ?_)
    · rw [roundS, roundTo_q]
      rcases i with _ | _ | _ | _ | _ | _ | i <;> simp [K, lround]
    · rw [roundS, roundTo_c]
      rcases i with _ | _ | _ | _ | _ | _ | i <;> simp [K, lround]
  · simp only [roundF, roundTo]
    simp only [show (K q0 q2 q3 q5 c0 c2 c3 c5).q 0 = q0 from rfl, show (K q0 q2 q3 q5 c0 c2 c3 c5).q 1 = [] from rfl, show (K q0 q2 q3 q5 c0 c2 c3 c5).q 2 = q2 from rfl, show (K q0 q2 q3 q5 c0 c2 c3 c5).q 3 = q3 from rfl, show (K q0 q2 q3 q5 c0 c2 c3 c5).q 4 = [] from rfl, show (K q0 q2 q3 q5 c0 c2 c3 c5).q 5 = q5 from rfl,
      show (K q0 q2 q3 q5 c0 c2 c3 c5).c 0 = c0 from rfl, show (K q0 q2 q3 q5 c0 c2 c3 c5).c 2 = c2 from rfl, show (K q0 q2 q3 q5 c0 c2 c3 c5).c 3 = c3 from rfl, show (K q0 q2 q3 q5 c0 c2 c3 c5).c 5 = c5 from rfl]
    simp [lround]
theorem k_len : lenS (K q0 q2 q3 q5 c0 c2 c3 c5) = q0.length + q2.length + q3.length + q5.length := by simp [lenS, lenTo, K]
theorem k_waits0 : waitsS (K q0 q2 q3 q5 c0 c2 c3 c5) 0 = bytes q0 := rfl
theorem k_waits5 : waitsS (K q0 q2 q3 q5 c0 c2 c3 c5) 5 = bytes q5 := rfl

/-! ### nil -/
set_option maxRecDepth 100000 in
theorem put_nil (lk : Int) (b : BA) (w : World) : Calls Try.prog 11 #[.pointer none, .int .i64 lk, .string b] w (SameI 1 w) := by
  go_enter Try.func11, Try.ntmps11
  go_wp2
  go_ret
  exact sameI rfl
set_option maxRecDepth 100000 in
theorem len_nil (w : World) : Calls Try.prog 14 #[.pointer none] w (SameI 0 w) := by
  go_enter Try.func14, Try.ntmps14
  go_wp2
  go_ret
  exact sameI rfl
set_option maxRecDepth 100000 in
theorem waits_nil (w : World) : Calls Try.prog 16 #[.pointer none, .int .i64 0] w (SameI 0 w) := by
  go_enter Try.func16, Try.ntmps16
  go_wp2
  go_ret
  exact sameI rfl
set_option maxRecDepth 100000 in
theorem round_nil (w : World) : Calls Try.prog 9 #[.pointer none] w (RetV (.slice none 0 0) w) := by
  go_enter Try.func9, Try.ntmps9
  go_wp2
  go_ret
  exact retV rfl (bel1 _ _)
end Go.Proofs.Ytkojjnkohnokoaa
