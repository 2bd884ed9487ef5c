/- The second greatest of three. -/
import Derived.Test.YtcleaamjfjnkkaaGreatCo16
namespace Go.Proofs.YtcleaamjfjnkkaaGreat
open Go.RowKit Go.Joins

set_option maxRecDepth 100000 in
theorem len64_3 (w : World) : Calls Tryz.prog 99 #[.int .u64 3] w (SameI 2 w) := by
  go_enter Tryz.func99, Tryz.ntmps99
  go_wp2
  go_ret
  exact sameI (by kernel_rfl)
set_option maxRecDepth 100000 in
theorem len_3 (w : World) : Calls Tryz.prog 88 #[.int .u64 3] w (SameI 2 w) := by
  go_enter Tryz.func88, Tryz.ntmps88
  go_wp2_with (go_at_call 99; refine (len64_3 _).mono ?_; rintro e w1 ⟨rfl, rfl⟩)
  go_ret
  exact sameI rfl
set_option maxHeartbeats 1000000 in
set_option maxRecDepth 100000 in
theorem pdq_any (x y z l : Int) (g cap : Nat) (w : World) (h : Tri w g x y z) :
    Calls Tryz.prog 87 #[.slice (some ⟨g, 0, none⟩) 3 cap, .int .i64 0, .int .i64 3, .int .i64 l] w (Tup0 (SortP g (ins2 (ins1 x y z)) w)) := by
  go_enter Tryz.func87, Tryz.ntmps87
  go_wp2
  refine wp_loop_rounds 1 ?_
  rw [rounds_succ]
  go_wp2_with (go_at_call 89; refine (insert_any x y z g cap w h).mono ?_; rintro e w1 ⟨rfl, hS⟩)
  go_end0
  exact ⟨rfl, hS⟩
set_option maxRecDepth 100000 in
theorem sort_any (x y z : Int) (g cap : Nat) (w : World) (h : Tri w g x y z) :
    Calls Tryz.prog 85 #[.slice (some ⟨g, 0, none⟩) 3 cap] w (Tup0 (SortP g (ins2 (ins1 x y z)) w)) := by
  go_enter Tryz.func85, Tryz.ntmps85
  go_wp2_with (first
    | (go_at_call 88; refine (len_3 _).mono ?_; rintro e w1 ⟨rfl, rfl⟩)
    | (go_at_call 87; refine (pdq_any x y z _ g cap _ h).mono ?_; rintro e w1 ⟨rfl, hS⟩))
  go_end0
  exact ⟨rfl, hS⟩
theorem ins_mid (x y z : Int) : (ins2 (ins1 x y z)).2.1 = Co.mid x y z := by
  unfold ins2 ins1 Co.mid
  split <;> simp only <;> split <;> (try split) <;> simp only <;> omega
set_option maxRecDepth 100000 in
theorem second_of (x y z : Int) (g cap : Nat) (w : World) (h : Tri w g x y z) :
    Calls Tryz.prog 82 #[.slice (some ⟨g, 0, none⟩) 3 cap] w (fun e w' => e = .returned (.int .i64 (Co.mid x y z)) ∧ Mod (fun k => k = g) w w') := by
  go_enter Tryz.func82, Tryz.ntmps82
  go_wp2_with (go_at_call 85; refine (sort_any x y z g cap w h).mono ?_; rintro e w1 ⟨rfl, hS⟩; obtain ⟨⟨⟨t0, t1, t2⟩, tf⟩, hm⟩ := hS; rw [ins_mid] at t1)
  go_ret
  exact ⟨rfl, hm⟩
end Go.Proofs.YtcleaamjfjnkkaaGreat
