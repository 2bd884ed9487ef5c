/- What stays behind a Wake, in plain words; a row of twenty texts. -/
import Derived.Test.YtcgkdomfbkkboaaRoom
namespace Go.Proofs.Ytcgkdomfbkkboaa
open Go.RowKit Go.Joins Go.ChangeMaps

theorem info9 : (Try.prog.info? 9).map (fun i => (i.zero, i.size, i.bytes)) = some (some (.string ByteArray.empty), 1, 16) := by kernel_rfl
def strA (g : Nat → BA) : Array Value := ((List.range 20).map fun i => Value.string (g i)).toArray
theorem strA_get (g : Nat → BA) {j : Nat} (h : j < 20) : (strA g)[j]? = some (.string (g j)) := by simp [strA, h]
theorem strA_set (g : Nat → BA) {j : Nat} (h : j < 20) (x : BA) : (strA g).setIfInBounds j (.string x) = strA (fun i => if i = j then x else g i) := by
  apply Array.ext_getElem?
  intro i
  rw [Array.getElem?_setIfInBounds]
  by_cases hij : j = i
  · subst hij; simp [strA, h]
  · rw [if_neg hij]
    by_cases hi : i < 20
    · simp [strA, hi, Ne.symm hij]
    · simp [strA, hi]
theorem strA_congr {g g' : Nat → BA} (h : ∀ i, i < 20 → g i = g' i) : strA g = strA g' := by
  unfold strA
  congr 1
  apply List.map_congr_left
  intro i hi
  rw [h i (List.mem_range.1 hi)]
def WantAt (w : World) (b : Nat) (g : Nat → BA) : Prop := w.heap[b]? = some (.cells (strA g) 9 (0, 0))
theorem make20 (W : World) : (Instr.makeSlice 36 (.int .i64 20) (.int .i64 20)).run Try.prog W = .ok (.slice (some ⟨W.heap.size, 0, none⟩) 20 20) (W.alloc (.cells (strA (fun _ => ByteArray.empty)) 9)) := by
  obtain ⟨i0, hi, hz0, hz1, hz2⟩ := info_parts info9
  have h := run_make (P := Try.prog) W 36 9 i0 (.string ByteArray.empty) Try.underlying36 hi hz0 .i64 .i64 20 20 (by omega) (by omega) (by rw [hz2]; omega) (by omega)
  have e : madeCells (Value.string ByteArray.empty).cells 20 = strA (fun _ => ByteArray.empty) := by
    apply Array.ext
    · simp [strA, size_madeCells]
    · intro i h1 h2
      simp [strA, madeCells, Value.cells, Nat.mod_one]
  rw [hz1, Nat.mul_one, show (20 : Int).toNat = 20 from rfl, e] at h
  exact h
theorem WantAt.cell {w : World} {b : Nat} {g : Nat → BA} (h : WantAt w b g) {j : Nat} (hj : j < 20) : w.cell? ⟨b, j, none⟩ = some (.string (g j)) ∧ w.frozen? ⟨b, j, none⟩ = false := cell_of h j (strA_get g hj)
theorem WantAt.set {w : World} {b : Nat} {g : Nat → BA} (h : WantAt w b g) {j : Nat} (hj : j < 20) (x : BA) {g' : Nat → BA} (hg : ∀ i, i < 20 → g' i = if i = j then x else g i) : WantAt (w.setCell ⟨b, j, none⟩ (.string x)) b g' := by
  unfold WantAt
  rw [setCell_blk h, strA_set g hj, strA_congr hg]
theorem WantAt.congr {w : World} {b : Nat} {g g' : Nat → BA} (h : WantAt w b g) (hg : ∀ i, i < 20 → g' i = g i) : WantAt w b g' := by
  unfold WantAt
  rw [strA_congr hg]; exact h
theorem WantAt.below {w w' : World} {b : Nat} {g : Nat → BA} (h : WantAt w b g) (hb : Below w.heap.size w w') : WantAt w' b g := (Mod.belowAll hb).heap h (fun c => c)
theorem Stp.want {w0 w w' : World} {F : Nat → Prop} {p bm b : Nat} {s : St} {g : Nat → BA} (h : Stp w0 w F p bm s w') (hF : F b) (hM : WantAt w b g) : WantAt w' b g := h.2.1 _ _ hF hM

theorem kept_snoc (ws : List Wr) (w : Wr) (ks : List Bool) : kept (ws ++ [w]) ks = kept ws ks ++ (if ws.length < ks.length ∧ ks.getD ws.length default = true then [w] else []) := by
  induction ws generalizing ks with
  | nil => cases ks with
    | nil => rfl
    | cons k ks => cases k <;> simp [kept]
  | cons x xs ih => cases ks with
    | nil => simp [kept]
    | cons k ks =>
      simp only [List.cons_append, kept, ih ks, List.length_cons, List.getD_cons_succ, Nat.add_lt_add_iff_right]
      cases k <;> simp
/-- twenty sectors, that are on. -/
structure Tw (m : Nat) (s : St) : Prop where
  off : s.off = false
  fuse : s.fuse = 0
  len : s.len = 20
  room : s.room = 20
  more : s.more.length = m
theorem tw_write {m : Nat} {s : St} (hg : Good s) (h : Tw m s) {x : Int} {b : BA} (h0 : 0 ≤ x) (h1 : x < 20) (hb : b.size = 32) : writeR s x b = (0, putS s x b) ∧ Tw (m + 1) (putS s x b) := by
  have hl := h.len
  have hr := h.room
  refine ⟨write_room h.off h.fuse h0 (by omega) hb (fun ⟨c1, c2⟩ => ?_), h.off, h.fuse, h.len, h.room, by simp [putS, h.more]⟩
  have := hg.rooms h0 (by omega) c1
  omega
theorem tw_flush {m : Nat} {s : St} (h : Tw m s) : flushR s = (0, { s with base := s.now, more := [] }) ∧ Tw 0 { s with base := s.now, more := [] } := by
  refine ⟨?_, h.off, h.fuse, h.len, h.room, rfl⟩
  unfold flushR
  rw [burn_none h.fuse, if_neg (by simp [h.off]), if_neg (by simp [h.off])]
theorem tw_read {m : Nat} {s : St} (h : Tw m s) {x : Int} (h0 : 0 ≤ x) (h1 : x < 20) : readR s x = ((s.now x).getD wZ, 0) := by
  have hl := h.len
  unfold readR
  rw [if_neg (by simp [h.off]), if_neg (by omega)]
  rfl
theorem tw_wake {m : Nat} {s : St} (h : Tw m s) (ks : List Bool) : Tw 0 (wakeS (offS s) ks) ∧ (wakeS (offS s) ks).now = apply s.base (kept s.more ks) := by
  unfold wakeS
  rw [if_pos (show (offS s).off = true from rfl)]
  exact ⟨⟨rfl, rfl, h.len, h.room, rfl⟩, rfl⟩
def nowT (s : St) (i : Nat) : BA := (s.now (i : Int)).getD wZ
def kepT (s : St) (ks : List Bool) (i : Nat) : BA := (apply s.base (kept s.more ks) (i : Int)).getD wZ
theorem nowT_put (s : St) (x : Nat) (b : BA) : ∀ i, i < 20 → nowT (putS s x b) i = if i = x then b else nowT s i := by
  intro i _
  unfold nowT
  rw [put_now]
  by_cases e : i = x
  · subst e; rw [upd_same, if_pos rfl]; rfl
  · rw [upd_other (by omega), if_neg e]
theorem kepT_put_yes (s : St) (x : Nat) (b : BA) (ks : List Bool) {m : Nat} (hm : s.more.length = m) (h1 : m < ks.length) (h2 : ks.getD m default = true) : ∀ i, i < 20 → kepT (putS s x b) ks i = if i = x then b else kepT s ks i := by
  intro i _
  unfold kepT putS
  simp only [kept_snoc, hm]
  rw [if_pos ⟨h1, h2⟩, apply_snoc]
  by_cases e : i = x
  · subst e; rw [upd_same, if_pos rfl]; rfl
  · rw [upd_other (by simpa using (fun c : (i : Int) = (x : Int) => e (by omega))), if_neg e]
theorem kepT_put_no (s : St) (x : Nat) (b : BA) (ks : List Bool) {m : Nat} (hm : s.more.length = m) (h : ¬ (m < ks.length ∧ ks.getD m default = true)) : ∀ i, i < 20 → kepT (putS s x b) ks i = kepT s ks i := by
  intro i _
  unfold kepT putS
  simp only [kept_snoc, hm]
  rw [if_neg h, List.append_nil]
theorem kepT_flush (s : St) (ks : List Bool) : ∀ i, i < 20 → kepT { s with base := s.now, more := [] } ks i = nowT s i := by
  intro i _
  unfold kepT nowT
  have : kept ([] : List Wr) ks = [] := by cases ks <;> rfl
  simp only [this]
  rfl
theorem nowT_wake {m : Nat} {s : St} (h : Tw m s) (ks : List Bool) (i : Nat) : nowT (wakeS (offS s) ks) i = kepT s ks i := by
  unfold nowT kepT
  rw [(tw_wake h ks).2]
end Go.Proofs.Ytcgkdomfbkkboaa
