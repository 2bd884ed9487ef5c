/- The second greatest of three. -/
import Derived.Test.YtcleaamjfjnkkaaCo16
namespace Go.Proofs.Ytcleaamjfjnkkaa
open Go.RowKit Go.Joins

set_option maxRecDepth 100000 in
theorem len64_3 (w : World) : Calls Try.prog 89 #[.int .u64 3] w (SameI 2 w) := by
  go_enter Try.func89, Try.ntmps89
  go_wp2
  go_ret
  exact sameI (by kernel_rfl)
set_option maxRecDepth 100000 in
theorem len_3 (w : World) : Calls Try.prog 78 #[.int .u64 3] w (SameI 2 w) := by
  go_enter Try.func78, Try.ntmps78
  go_wp2_with (go_at_call 89; refine (len64_3 _).mono ?_; rintro e w1 ⟨rfl, rfl⟩)
  go_ret
  exact sameI rfl
set_option maxHeartbeats 1000000 in
set_option maxRecDepth 100000 in
theorem pdq_any (x y z l : Int) (g cap : Nat) (w : World) (h : Tri w g x y z) :
    Calls Try.prog 77 #[.slice (some ⟨g, 0, none⟩) 3 cap, .int .i64 0, .int .i64 3, .int .i64 l] w (Tup0 (SortP g (ins2 (ins1 x y z)) w)) := by
  go_enter Try.func77, Try.ntmps77
  go_wp2
  refine wp_loop_rounds 1 ?_
  rw [rounds_succ]
  go_wp2_with (go_at_call 79; refine (insert_any x y z g cap w h).mono ?_; rintro e w1 ⟨rfl, hS⟩)
  go_end0
  exact ⟨rfl, hS⟩
set_option maxRecDepth 100000 in
theorem sort_any (x y z : Int) (g cap : Nat) (w : World) (h : Tri w g x y z) :
    Calls Try.prog 75 #[.slice (some ⟨g, 0, none⟩) 3 cap] w (Tup0 (SortP g (ins2 (ins1 x y z)) w)) := by
  go_enter Try.func75, Try.ntmps75
  go_wp2_with (first
    | (go_at_call 78; refine (len_3 _).mono ?_; rintro e w1 ⟨rfl, rfl⟩)
    | (go_at_call 77; refine (pdq_any x y z _ g cap _ h).mono ?_; rintro e w1 ⟨rfl, hS⟩))
  go_end0
  exact ⟨rfl, hS⟩
theorem ins_mid (x y z : Int) : (ins2 (ins1 x y z)).2.1 = Co.mid x y z := by
  unfold ins2 ins1 Co.mid
  split <;> simp only <;> split <;> (try split) <;> simp only <;> omega
set_option maxRecDepth 100000 in
theorem second_of (x y z : Int) (g cap : Nat) (w : World) (h : Tri w g x y z) :
    Calls Try.prog 68 #[.slice (some ⟨g, 0, none⟩) 3 cap] w (fun e w' => e = .returned (.int .i64 (Co.mid x y z)) ∧ Mod (fun k => k = g) w w') := by
  go_enter Try.func68, Try.ntmps68
  go_wp2_with (go_at_call 75; refine (sort_any x y z g cap w h).mono ?_; rintro e w1 ⟨rfl, hS⟩; obtain ⟨⟨⟨t0, t1, t2⟩, tf⟩, hm⟩ := hS; rw [ins_mid] at t1)
  go_ret
  exact ⟨rfl, hm⟩
end Go.Proofs.Ytcleaamjfjnkkaa
