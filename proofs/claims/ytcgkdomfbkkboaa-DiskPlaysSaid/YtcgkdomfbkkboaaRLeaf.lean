/- The reference's small functions. -/
import Derived.Test.YtcgkdomfbkkboaaRObj
namespace Go.Proofs.Ytcgkdomfbkkboaa
open Go.RowKit Go.Joins Go.ChangeMaps

variable {w : World} {base q : Nat} {bv nv mv : Value} {s : St}
theorem RUpd.field (h : RD w base q bv nv mv s) (i : Nat) (x : Value) (s' : St) (e1 : s'.base = s.base) (e2 : s'.more = s.more) (e3 : s'.len = s.len)
    (e : (#[.int .i64 s.len, .int .i64 s.room, bv, nv, .int .i64 (cntF s.now), mv, .int .i64 s.fuse, .bool (!s.off)] : Array Value).setIfInBounds i x = #[.int .i64 s'.len, .int .i64 s'.room, bv, nv, .int .i64 (cntF s.now), mv, .int .i64 s'.fuse, .bool (!s'.off)]) :
    RD (w.setCell ⟨q, i, none⟩ x) base q bv nv mv s' ∧ Mod (RF q bv nv mv) w (w.setCell ⟨q, i, none⟩ x) := by
  have := h.set i x s'.fl (cntF s.now) e
  refine ⟨?_, (Mod.cellOf q i x).mono (fun k _ hk => .inl hk)⟩
  show RR _ _ _ _ _ _ _ (cntF (apply s'.base s'.more)) (rowOf s'.base s'.len) (rowOf (apply s'.base s'.more) s'.len) s'.more
  rw [e1, e2, e3]
  exact this
theorem rused_any (h : RD w base q bv nv mv s) : Calls Try.prog 48 #[.pointer (some ⟨q, 0, none⟩)] w (SameI (cntF s.now) w) := by
  obtain ⟨⟨-, -, -, -, g4, -⟩, -⟩ := h.cells
  clear h
  go_enter Try.func48, Try.ntmps48
  go_wp2
  go_ret
  exact sameI rfl
theorem rroom_any (n : Int) (h : RD w base q bv nv mv s) : Calls Try.prog 46 #[.pointer (some ⟨q, 0, none⟩), .int .i64 n] w (Tup0 (RUpd base q bv nv mv (roomS s n) w)) := by
  obtain ⟨⟨-, g1, -⟩, gf⟩ := h.cells
  have f1 := gf 1 (by omega)
  have h2 := Lib.hid (RUpd.field h 1 (.int .i64 (max n 0)) (roomS s n) rfl rfl rfl rfl)
  clear gf h
  go_enter Try.func46, Try.ntmps46
  go_wp2
  all_goals (
    go_end0
    refine ⟨rfl, RUpd.fixed ?_ ?_⟩
    all_goals (
      have h3 := h2.out
      first
        | (rw [show max n 0 = 0 by omega] at h3; first | exact h3.1 | exact h3.2)
        | (rw [show max n 0 = n by omega] at h3; first | exact h3.1 | exact h3.2)))
theorem rarm_any (n : Int) (h : RD w base q bv nv mv s) : Calls Try.prog 43 #[.pointer (some ⟨q, 0, none⟩), .int .i64 n] w (Tup0 (RUpd base q bv nv mv (armS s n) w)) := by
  obtain ⟨⟨-, -, -, -, -, -, g6, -⟩, gf⟩ := h.cells
  have f1 := gf 6 (by omega)
  have h2 := Lib.hid (RUpd.field h 6 (.int .i64 (max n 0)) (armS s n) rfl rfl rfl rfl)
  clear gf h
  go_enter Try.func43, Try.ntmps43
  go_wp2
  all_goals (
    go_end0
    refine ⟨rfl, RUpd.fixed ?_ ?_⟩
    all_goals (
      have h3 := h2.out
      first
        | (rw [show max n 0 = 0 by omega] at h3; first | exact h3.1 | exact h3.2)
        | (rw [show max n 0 = n by omega] at h3; first | exact h3.1 | exact h3.2)))
theorem roff_any (h : RD w base q bv nv mv s) : Calls Try.prog 44 #[.pointer (some ⟨q, 0, none⟩)] w (Tup0 (RUpd base q bv nv mv (offS s) w)) := by
  obtain ⟨⟨-, -, -, -, -, -, g6, g7⟩, gf⟩ := h.cells
  have f6 := gf 6 (by omega)
  have f7 := gf 7 (by omega)
  have h1 := Lib.hid (RUpd.field h 7 (.bool false) { s with off := true } rfl rfl rfl rfl)
  have h2 := Lib.hid (RUpd.field h1.out.1 6 (.int .i64 0) (offS s) rfl rfl rfl rfl)
  clear gf h
  go_enter Try.func44, Try.ntmps44
  go_wp2
  go_end0
  exact ⟨rfl, RUpd.fixed h2.out.1 (h1.out.2.trans h2.out.2)⟩
def BoolP (b : Bool) (R : World → Prop) (e : Ending) (w' : World) : Prop := e = .returned (.bool b) ∧ R w'
theorem rop_any (h : RD w base q bv nv mv s) (hg : Good s) (ho : s.off = false) : Calls Try.prog 33 #[.pointer (some ⟨q, 0, none⟩)] w (BoolP (!(burnS s).off) (fun w' => RD w' base q bv nv mv (burnS s) ∧ Mod (RF q bv nv mv) w w')) := by
  obtain ⟨⟨-, -, -, -, -, -, g6, g7⟩, gf⟩ := h.cells
  have f6 := gf 6 (by omega)
  have f7 := gf 7 (by omega)
  obtain ⟨hf0, hf1⟩ := hg.fuse
  simp only [St.fl] at g6 g7
  clear gf hg
  by_cases hx : s.fuse = 1
  · have hb : burnS s = offS s := by unfold burnS offS; rw [if_pos hx]
    have h1 := Lib.hid (RUpd.field h 6 (.int .i64 0) { s with fuse := 0 } rfl rfl rfl rfl)
    have h2 := Lib.hid (RUpd.field h1.out.1 7 (.bool false) (offS s) rfl rfl rfl rfl)
    rw [hb]
    rw [hx] at g6
    clear h hb hf0 hf1 ho
    go_enter Try.func33, Try.ntmps33
    go_wp2
    go_ret
    exact ⟨rfl, h2.out.1, h1.out.2.trans h2.out.2⟩
  · by_cases h0 : s.fuse = 0
    · have hb : burnS s = s := by
        unfold burnS
        rw [if_neg hx, h0]
        cases s
        simp at h0 ⊢
        omega
      have hh := Lib.hid h
      rw [hb, ho]
      rw [h0] at g6
      clear h hb hf0 hf1 ho hx h0
      go_enter Try.func33, Try.ntmps33
      go_wp2
      go_ret
      exact ⟨rfl, hh.out, Mod.refl _ _⟩
    · have hb : burnS s = { s with fuse := s.fuse - 1 } := by
        unfold burnS
        rw [if_neg hx]
        congr 1
        omega
      have h1 := Lib.hid (RUpd.field h 6 (.int .i64 (s.fuse - 1)) { s with fuse := s.fuse - 1 } rfl rfl rfl rfl)
      have hp : 0 < s.fuse := by omega
      have hne : ¬ s.fuse - 1 = 0 := by omega
      have hneb : ((s.fuse - 1) == 0) = false := by simpa using hne
      have hO := Lib.hid ho
      rw [hb]
      clear h hb hx h0 ho
      go_enter Try.func33, Try.ntmps33
      go_wp2
      go_ret
      exact ⟨by simp [hO.out], h1.out.1, h1.out.2⟩
end Go.Proofs.Ytcgkdomfbkkboaa
