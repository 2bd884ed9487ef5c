/- The small functions of a disk. -/
import Derived.Test.YtcgkdomfbkkboaaObj
import Derived.Laws.LoneSync
import Derived.Laws.StructEq
import Derived.Laws.ResultCell
import Derived.Laws.Cover3
namespace Go.Proofs.Ytcgkdomfbkkboaa
open Go.RowKit Go.Joins Go.ChangeMaps

theorem eql58 (bm : Nat) (w : World) : (binOp .eql 58 (.map (some bm)) (.map none)).run Try.prog w = .ok (.bool false) w := by
  simp only [binOp]
  simp [run_equal_map_nil w 58 3 9 (some bm) Try.underlying58]
def errF (c : Fl) : Int := if c.off then 6 else 0
theorem state_any {w : World} {base p bm n : Nat} {v : Value} {c : Fl} {xs : List Bf} {f : Fn} (h : PR w base p bm v c xs n f) : Calls Try.prog 30 #[.pointer (some ⟨p, 0, none⟩)] w (SameI (errF c) w) := by
  obtain ⟨⟨g0, -, -, -, -, g5⟩, -⟩ := h.cells
  clear h
  have he := eql58 bm w
  unfold errF
  generalize c.off = o at *
  cases o <;> (
    go_enter Try.func30, Try.ntmps30
    go_wp2
    go_ret
    exact sameI rfl)
theorem state_nil (w : World) : Calls Try.prog 30 #[.pointer none] w (SameI 1 w) := by
  go_enter Try.func30, Try.ntmps30
  go_wp2
  go_ret
  exact sameI rfl
def inB (l i : Int) : Bool := decide (0 ≤ i ∧ i < l)
theorem there_any {w : World} {base p bm n : Nat} {v : Value} {c : Fl} {xs : List Bf} {f : Fn} (i : Int) (h : PR w base p bm v c xs n f) : Calls Try.prog 31 #[.pointer (some ⟨p, 0, none⟩), .int .i64 i] w (SameB (inB c.len i) w) := by
  unfold inB
  obtain ⟨⟨-, -, g2, -, -, -⟩, -⟩ := h.cells
  clear h
  generalize c.len = l at *
  by_cases h1 : 0 ≤ i
  · go_enter Try.func31, Try.ntmps31
    go_wp2
    go_ret
    exact sameB (by simp [h1])
  · have h2 : i < 0 := by omega
    go_enter Try.func31, Try.ntmps31
    go_wp2
    go_ret
    exact sameB (by simp; omega)
theorem on_any {w : World} {base p bm n : Nat} {v : Value} {c : Fl} {xs : List Bf} {f : Fn} (h : PR w base p bm v c xs n f) : Calls Try.prog 21 #[.pointer (some ⟨p, 0, none⟩)] w (SameB (!c.off) w) := by
  have hs := state_any h
  clear h
  unfold errF at hs
  generalize c.off = o at *
  cases o <;> (
    go_enter Try.func21, Try.ntmps21
    go_wp2_with (go_at_call 30; refine hs.mono ?_; rintro e w1 ⟨rfl, rfl⟩)
    go_ret
    exact sameB rfl)
theorem len_any {w : World} {base p bm n : Nat} {v : Value} {c : Fl} {xs : List Bf} {f : Fn} (h : PR w base p bm v c xs n f) : Calls Try.prog 29 #[.pointer (some ⟨p, 0, none⟩)] w (SameI c.len w) := by
  obtain ⟨⟨-, -, g2, -, -, -⟩, -⟩ := h.cells
  clear h
  go_enter Try.func29, Try.ntmps29
  go_wp2
  go_ret
  exact sameI rfl
theorem used_any {w : World} {base p bm n : Nat} {v : Value} {c : Fl} {xs : List Bf} {f : Fn} (h : PR w base p bm v c xs n f) : Calls Try.prog 23 #[.pointer (some ⟨p, 0, none⟩)] w (SameI n w) := by
  obtain ⟨⟨g0, -, -, -, -, -⟩, -⟩ := h.cells
  have hl := fun ty => h.map.len ty
  clear h
  go_enter Try.func23, Try.ntmps23
  go_wp2
  go_ret
  exact sameI rfl
theorem off_any {w : World} {base p bm : Nat} {v : Value} {s : St} (h : PD w base p bm v s) : Calls Try.prog 19 #[.pointer (some ⟨p, 0, none⟩)] w (Tup0 (fun w' => PD w' base p bm v (offS s) ∧ Mod (PF p bm v) w w')) := by
  obtain ⟨⟨-, -, -, -, g4, g5⟩, gf⟩ := h.cells
  have f4 := gf 4 (by omega)
  have f5 := gf 5 (by omega)
  have h1 := Lib.hid (PUpd.fieldOf (s' := { s with off := true }) h 5 (.bool true) rfl rfl rfl)
  have h2 := Lib.hid (PUpd.fieldOf (s' := offS s) h1.out.1 4 (.int .i64 0) rfl rfl rfl)
  clear gf h
  go_enter Try.func19, Try.ntmps19
  go_wp2
  go_end0
  exact ⟨rfl, h2.out.1, h1.out.2.trans h2.out.2⟩
theorem arm_any {w : World} {base p bm : Nat} {v : Value} {s : St} (n : Int) (h : PD w base p bm v s) : Calls Try.prog 22 #[.pointer (some ⟨p, 0, none⟩), .int .i64 n] w (Tup0 (fun w' => PD w' base p bm v (armS s n) ∧ Mod (PF p bm v) w w')) := by
  obtain ⟨⟨-, -, -, -, g4, g5⟩, gf⟩ := h.cells
  have f4 := gf 4 (by omega)
  have h2 := Lib.hid (PUpd.fieldOf (s' := armS s n) h 4 (.int .i64 (max n 0)) rfl rfl rfl)
  clear gf h
  go_enter Try.func22, Try.ntmps22
  go_wp2
  all_goals (
    go_end0
    refine ⟨rfl, ?_⟩
    have h3 := h2.out
    first
      | (rw [show max n 0 = 0 by omega] at h3; exact h3)
      | (rw [show max n 0 = n by omega] at h3; exact h3))
theorem room_any {w : World} {base p bm : Nat} {v : Value} {s : St} (n : Int) (h : PD w base p bm v s) : Calls Try.prog 25 #[.pointer (some ⟨p, 0, none⟩), .int .i64 n] w (Tup0 (fun w' => PD w' base p bm v (roomS s n) ∧ Mod (PF p bm v) w w')) := by
  obtain ⟨⟨-, -, -, g3, -, -⟩, gf⟩ := h.cells
  have f3 := gf 3 (by omega)
  have h2 := Lib.hid (PUpd.fieldOf (s' := roomS s n) h 3 (.int .i64 (max n 0)) rfl rfl rfl)
  clear gf h
  go_enter Try.func25, Try.ntmps25
  go_wp2
  all_goals (
    go_end0
    refine ⟨rfl, ?_⟩
    have h3 := h2.out
    first
      | (rw [show max n 0 = 0 by omega] at h3; exact h3)
      | (rw [show max n 0 = n by omega] at h3; exact h3))
theorem burn_any {w : World} {base p bm : Nat} {v : Value} {s : St} (h : PD w base p bm v s) (hg : Good s) : Calls Try.prog 32 #[.pointer (some ⟨p, 0, none⟩)] w (TupI (errOf (burnS s)) (fun w' => PD w' base p bm v (burnS s) ∧ Mod (PF p bm v) w w')) := by
  obtain ⟨hf0, hf1⟩ := hg.fuse
  obtain ⟨⟨-, -, -, -, g4, g5⟩, gf⟩ := h.cells
  have f4 := gf 4 (by omega)
  clear gf hg
  simp only [St.fl] at g4 g5
  by_cases hx : s.fuse = 1
  · have h1 := Lib.hid (PUpd.fieldOf (s' := { s with fuse := 0 }) h 4 (.int .i64 0) rfl rfl rfl)
    have hb : burnS s = offS s := by unfold burnS offS; rw [if_pos hx]
    have hO := Lib.hid (off_any h1.out.1)
    rw [hb]
    rw [hx] at g4
    clear hb h hf0 hf1
    go_enter Try.func32, Try.ntmps32
    go_wp2_with (first
      | (go_at_call 19; refine hO.out.mono ?_; rintro e w1 ⟨rfl, hP1, hM1⟩; have N1 := Lib.hid hP1; have N2 := Lib.hid hM1; obtain ⟨⟨-, -, -, -, k4, k5⟩, kf⟩ := hP1.cells; have k4f := kf 4 (by omega); simp only [St.fl, offS] at k4 k5; clear hP1 hM1 kf)
      | (go_at_call 30; have N3 := Lib.hid (PUpd.fieldOf (s' := offS s) N1.out 4 (.int .i64 0) rfl rfl rfl); refine (state_any N3.out.1).mono ?_; rintro e w2 ⟨rfl, rfl⟩))
    go_ret
    exact ⟨rfl, N3.out.1, (h1.out.2.trans N2.out).trans N3.out.2⟩
  · have h1 := Lib.hid (PUpd.fieldOf (s' := { s with fuse := s.fuse - 1 }) h 4 (.int .i64 (s.fuse - 1)) rfl rfl rfl)
    obtain ⟨⟨-, -, -, -, k4, k5⟩, kf⟩ := h1.out.1.cells
    have k4f := kf 4 (by omega)
    simp only [St.fl] at k4 k5
    have h2 := Lib.hid (PUpd.fieldOf (s' := { s with fuse := max (s.fuse - 1) 0 }) h1.out.1 4 (.int .i64 (max (s.fuse - 1) 0)) rfl rfl rfl)
    have hb : burnS s = { s with fuse := max (s.fuse - 1) 0 } := by unfold burnS; rw [if_neg hx]
    rw [hb]
    have hne : ¬ s.fuse - 1 = 0 := by omega
    have hN := Lib.hid hne
    have hS := Lib.hid (state_any h2.out.1)
    clear hb h kf
    generalize hm : max (s.fuse - 1) 0 = m at *
    have HM := Lib.hid hm
    clear hm
    go_enter Try.func32, Try.ntmps32
    go_upto_region 4 with fail
    by_cases h0 : s.fuse - 1 < 0
    · have em : m = 0 := by have := HM.out; omega
      subst em
      go_wp2_with (go_at_call 30; refine hS.out.mono ?_; rintro e w2 ⟨rfl, rfl⟩)
      go_ret
      exact ⟨rfl, h2.out.1, h1.out.2.trans h2.out.2⟩
    · have h0' : 0 ≤ s.fuse - 1 := by omega
      have em : m = s.fuse - 1 := by have := HM.out; omega
      subst em
      go_wp2_with (go_at_call 30; refine hS.out.mono ?_; rintro e w2 ⟨rfl, rfl⟩)
      go_ret
      exact ⟨rfl, h2.out.1, h1.out.2.trans h2.out.2⟩
end Go.Proofs.Ytcgkdomfbkkboaa
