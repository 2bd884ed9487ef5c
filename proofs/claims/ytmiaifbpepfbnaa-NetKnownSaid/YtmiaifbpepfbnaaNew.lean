/- A new net; what was sent. -/
import Derived.Test.YtmiaifbpepfbnaaJoin
namespace Go.Proofs.Ytmiaifbpepfbnaa
open Go.RowKit Go.Joins Go.ChangeMaps

theorem laterSI {P : Program} {f : FuncId} {args : Array Value} {w0 : World} {b : Int} {x : Later w0} (h : Calls P f args x.w (SameI b x.w)) :
    Calls P f args x.w fun e w'' => e = .returned (.int .i64 b) ∧ ∃ y : Later w0, w'' = y.w := h.mono fun _ _ ⟨he, e⟩ => ⟨he, x, e.symm⟩
set_option maxRecDepth 100000 in
theorem sent_any (base p bm : Nat) (v : Value) (s : St) (w : World) (h : PN w base p bm v s) : Calls Try.prog 22 #[.pointer (some ⟨p, 0, none⟩)] w (RetV (.tuple #[.int .i64 s.fr, .int .i64 s.bt]) w) := by
  have h3 := Lib.hid (fun y : Later w => load_any p 3 s.fr y.w (y.cell h.c.1.2.2.2.1))
  have h4 := Lib.hid (fun y : Later w => load_any p 4 s.bt y.w (y.cell h.c.1.2.2.2.2))
  have l0 := fun y : Later w => y.cell h.c.1.1
  clear h
  go_enter Try.func22, Try.ntmps22
  go_wp2_with fail
  refine wp_region_later_lit (by kernel_rfl) (by kernel_rfl) ?_
  repeat (any_goals (first | go_big_quiet_step (first | (go_at_call 37; exact laterSI (h3.out _)) | (go_at_call 37; exact laterSI (h4.out _))) | quiet_step (first | (go_at_call 37; exact laterSI (h3.out _)) | (go_at_call 37; exact laterSI (h4.out _)))))
  refine wpQuiet_nil ?_
  intro _ hw'
  obtain ⟨y, hw''⟩ := hw'
  subst hw''
  have hy := Lib.hid y.h
  clear l0 h3 h4
  generalize y.w = Y at *
  go_wp2
  refine bodyPost_ret (results_tmp2 rfl _ _ _) rfl ?_
  exact retV rfl hy.out
def newS (n : Int) : St := ⟨n, [], [], 0, 0, 0⟩
theorem good_new {n : Int} (h1 : 1 ≤ n) (h6 : n ≤ 6) : Good (newS n) := ⟨⟨h1, h6⟩, by simp [newS], by simp [newS], by simp [newS], by simp [newS], by simp [newS]⟩
theorem map_new (w : World) (n : Int) (o : Obj) : MapAt ((w.alloc (.map #[] 0)).alloc o) w.heap.size (newS n) :=
  ⟨.map [], (World.ownsMap_made w Try.prog 60 _).alloc o, fun c l _ _ => by simp [newS, DataW.atKey]⟩
set_option maxRecDepth 100000 in
theorem new_any (n : Int) (w : World) (h1 : 1 ≤ n) (h6 : n ≤ 6) : Calls Try.prog 8 #[.int .i64 n] w (fun e w' => e = .returned (.pointer (some ⟨w.heap.size + 1, 0, none⟩)) ∧ PN w' w.heap.size (w.heap.size + 1) w.heap.size (.slice none 0 0) (newS n) ∧ Below w.heap.size w w') := by
  have hmm := @run_makeMap Try.prog
  go_enter Try.func8, Try.ntmps8
  go_wp2
  go_ret
  refine ⟨rfl, ⟨?_, by omega, ownL_nil _ _, Nat.le_refl _, map_new w n _⟩, grew_trans (bel1 _ _) (bel1 _ _)⟩
  have := heap_alloc_new (w.alloc (.map #[] 0)) (.cells #[.int .i64 n, .slice none 0 0, .map (some w.heap.size), .int .i64 0, .int .i64 0] 58)
  rw [show (w.alloc (.map #[] 0)).heap.size = w.heap.size + 1 by simp] at this
  exact this
set_option maxRecDepth 100000 in
theorem new_out (n : Int) (w : World) (h : n < 1 ∨ 6 < n) : Calls Try.prog 8 #[.int .i64 n] w (fun e w' => e = .returned (.pointer none) ∧ w' = w) := by
  by_cases h1 : n < 1
  · clear h
    go_enter Try.func8, Try.ntmps8
    go_wp2
    go_ret
    exact ⟨rfl, rfl⟩
  · have h2 : 6 < n := by omega
    have h3 : 1 ≤ n := by omega
    clear h h1
    go_enter Try.func8, Try.ntmps8
    go_wp2
    go_ret
    exact ⟨rfl, rfl⟩
end Go.Proofs.Ytmiaifbpepfbnaa
