/- What the first entries of a log say. -/
import Derived.Test.YthfchmdfoaiibaaFold2
import Derived.Test.YthfchmdfoaiibaaCat
namespace Go.Proofs.Ythfchmdfoaiibaa
open Go.RowKit Go.Joins

/-- how many of the first. -/
def cut (commit : Int) (n : Nat) : Nat := (max 0 (min commit (n : Int))).toNat
theorem cut_le (commit : Int) (n : Nat) : cut commit n ≤ n := by unfold cut; omega
theorem foldL_snoc (es : List Ent) (x : Ent) : foldL (es ++ [x]) = lstep (foldL es) x := by simp [foldL]
theorem lstep_len (s : Line) (e : Ent) : (lstep s e).2.2.2.length ≤ s.2.2.2.length + 1 := by
  unfold lstep
  split
  · simp
  · split
    · simp
    · split
      · simp
      · simp
theorem foldL_len (es : List Ent) : ∀ k, k ≤ es.length → (foldL (es.take k)).2.2.2.length ≤ k := by
  intro k
  induction k with
  | zero => intro _; simp [foldL]
  | succ k ih =>
    intro hk
    rw [take_snoc es k default (by omega), foldL_snoc]
    have := lstep_len (foldL (es.take k)) (es.getD k default)
    have := ih (by omega)
    omega
def LinePost (s : Line) (w : World) (e : Ending) (w' : World) : Prop := ∃ v, e = .returned (.agg #[.int .u64 s.1, .int .i64 s.2.1, .bool s.2.2.1, v]) ∧ OwnG w' w.heap.size v s.2.2.2 ∧ Below w.heap.size w w'
theorem OwnG.mono {w : World} {base base' : Nat} {v : Value} {gs : List Gid} (h : OwnG w base v gs) (hb : base' ≤ base) : OwnG w base' v gs := by
  refine ⟨h.1, ?_⟩
  rcases h.2 with h2 | ⟨g, cap, cur, e1, e2, r⟩
  · exact .inl h2
  · exact .inr ⟨g, cap, cur, e1, by omega, r⟩

theorem line_cells {w : World} {B : Nat} {a0 a1 a2 a3 : Value} (h : w.heap[B]? = some (.cells #[a0, a1, a2, a3] 38 (0, 0))) (b0 b1 b2 b3 : Value) :
    ((((w.setCell ⟨B, 0, none⟩ b0).setCell ⟨B, 1, none⟩ b1).setCell ⟨B, 2, none⟩ b2).setCell ⟨B, 3, none⟩ b3).heap[B]? = some (.cells #[b0, b1, b2, b3] 38 (0, 0)) := by
  rw [block_setCell (block_setCell (block_setCell (block_setCell h _) _) _) _]; rfl
theorem res21 (tmps : Array Value) (w : World) (R : Nat) (s1 s2 : Int) (s3 : Bool) (v : Value) (h4 : tmps.getD 4 undef = .pointer (some ⟨R, 0, none⟩)) (hR : w.heap[R]? = some (.cells #[.int .u64 s1, .int .i64 s2, .bool s3, v] 38 (0, 0))) :
    (results Try.f21 tmps).run Try.prog w = .ok (.agg #[.int .u64 s1, .int .i64 s2, .bool s3, v]) w := by
  have h4' : tmps[4]?.getD undef = .pointer (some ⟨R, 0, none⟩) := by simpa using h4
  have r0 := cell_of_block hR 0
  have r1 := cell_of_block hR 1
  have r2 := cell_of_block hR 2
  have r3 := cell_of_block hR 3
  simp only [List.getElem?_toArray, List.getElem?_cons_zero, List.getElem?_cons_succ] at r0 r1 r2 r3
  simp [results, Try.results21, h4', asAddr, r0, r1, r2, r3, go_sem]

set_option maxRecDepth 100000 in
set_option maxHeartbeats 4000000 in
theorem fold_any (a : Option Addr) (cap : Nat) (es : List Ent) (commit : Int) (w : World) (h : Sl w a cap es) (hlen : es.length < 100000) :
    Calls Try.prog 21 #[.slice a es.length cap, .int .i64 commit] w (LinePost (foldL (es.take (cut commit es.length))) w) := by
  have HS := Lib.hid h
  have hll := h.len
  have hlc := h.capm
  unfold maxLen at hlc
  have hz := fun (w : World) => (by kernel_rfl : (zeroValue 38).run Try.prog w = .ok (.agg #[.int .u64 0, .int .i64 0, .bool false, .slice none 0 0]) w)
  clear h
  have hW : Hid (∀ o1 o2, Below w.heap.size w ((w.alloc o1).alloc o2) ∧ ((w.alloc o1).alloc o2).heap.size = w.heap.size + 1 + 1) := fun o1 o2 => ⟨((Below.refl _ w).alloc (Nat.le_refl _) _).alloc (by simp) _, by simp⟩
  have hL0 : Hid (LineAt ((w.alloc (.cells #[.int .u64 0, .int .i64 0, .bool false, .slice none 0 0] 38)).alloc (.cells #[.int .u64 0, .int .i64 0, .bool false, .slice none 0 0] 38)) (w.heap.size + 1 + 1) (w.heap.size + 1) (foldL (es.take 0))) := by
    refine ⟨_, ?_, ownG_nil _ _⟩
    have := World.alloc_heap_new (w.alloc (.cells #[.int .u64 0, .int .i64 0, .bool false, .slice none 0 0] 38)) (.cells #[.int .u64 0, .int .i64 0, .bool false, .slice none 0 0] 38)
    rw [World.size_alloc] at this
    exact this
  have hR0 : Hid (((w.alloc (.cells #[.int .u64 0, .int .i64 0, .bool false, .slice none 0 0] 38)).alloc (.cells #[.int .u64 0, .int .i64 0, .bool false, .slice none 0 0] 38)).heap[w.heap.size]? = some (.cells #[.int .u64 0, .int .i64 0, .bool false, .slice none 0 0] 38 (0, 0))) :=
    (Below.heap_alloc _ _ _ (by simp)).trans (World.alloc_heap_new w _)
  by_cases h1 : commit ≤ 0
  · have hm : Hid (cut commit es.length = 0) := by unfold Hid cut; omega
    go_enter Try.func21, Try.ntmps21
    go_wp2
    have HA := Lib.hid (hW.out (.cells #[.int .u64 0, .int .i64 0, .bool false, .slice none 0 0] 38) (.cells #[.int .u64 0, .int .i64 0, .bool false, .slice none 0 0] 38))
    generalize (w.alloc (.cells #[.int .u64 0, .int .i64 0, .bool false, .slice none 0 0] 38)).alloc (.cells #[.int .u64 0, .int .i64 0, .bool false, .slice none 0 0] 38) = W0 at *
    clear hW hz
    go_loopg [8, 18] (0) (fun k v8 v18 wr => ∃ i : Nat, i + k = 0 ∧ v18 = .int .i64 (i : Int) ∧ LineAt wr (w.heap.size + 1 + 1) (w.heap.size + 1) (foldL (es.take i)) ∧ Below (w.heap.size + 1) W0 wr)
    case atStart => exact ⟨0, by omega, rfl, hL0.out, Below.refl _ _⟩
    case round =>
      obtain ⟨i, hik, rfl, hLn, hB⟩ := hrel
      have HLn := Lib.hid hLn
      have HB := Lib.hid hB
      have hBw : Hid (Below w.heap.size w wr) := HA.out.1.trans (hB.mono (by omega))
      have hsz : w.heap.size + 1 + 1 ≤ wr.heap.size := by have := hB.size; have := HA.out.2; omega
      clear hLn hB
      have hlt : ¬ i < 0 := by omega
      obtain rfl : 0 = i := by omega
      obtain ⟨v, hLv, hOv⟩ := HLn.out
      unfold LineIs at hLv
      have hRv := (HB.out.block w.heap.size (by omega)).trans hR0.out
      obtain ⟨ga, gc, rfl, -⟩ := own_gids hOv
      generalize hs : foldL (es.take (0)) = s at *
      obtain ⟨s1, s2, s3, gs⟩ := s
      simp only at hLv hOv
      have c0 := cell_of_block hLv 0
      have c1 := cell_of_block hLv 1
      have c2 := cell_of_block hLv 2
      have c3 := cell_of_block hLv 3
      have r0 := cell_of_block hRv 0
      have r1 := cell_of_block hRv 1
      have r2 := cell_of_block hRv 2
      have r3 := cell_of_block hRv 3
      simp only [List.getElem?_toArray, List.getElem?_cons_zero, List.getElem?_cons_succ] at c0 c1 c2 c3 r0 r1 r2 r3
      have f0 := unfrozen_of_block hRv 0
      have f1 := unfrozen_of_block hRv 1
      have f2 := unfrozen_of_block hRv 2
      have f3 := unfrozen_of_block hRv 3
      have HLv := Lib.hid hLv
      have HOv := Lib.hid hOv
      have HRv := Lib.hid hRv
      have HHS := Lib.hid hs
      clear hLv hOv hRv hs
      go_wp2
      have hRw := line_cells HRv.out (.int .u64 s1) (.int .i64 s2) (.bool s3) (.slice ga gs.length gc)
      have hOw := (((OwnG.set HOv.out HRv.out 0 (.int .u64 s1)).set (block_setCell HRv.out _) 1 (.int .i64 s2)).set (block_setCell (block_setCell HRv.out _) _) 2 (.bool s3)).set (block_setCell (block_setCell (block_setCell HRv.out _) _) _) 3 (.slice ga gs.length gc)
      have hBn := (((hBw.out.setCell (p := ⟨w.heap.size, 0, none⟩) (Nat.le_refl _) (.int .u64 s1)).setCell (p := ⟨w.heap.size, 1, none⟩) (Nat.le_refl _) (.int .i64 s2)).setCell (p := ⟨w.heap.size, 2, none⟩) (Nat.le_refl _) (.bool s3)).setCell (p := ⟨w.heap.size, 3, none⟩) (Nat.le_refl _) (.slice ga gs.length gc)
      refine bodyPost_ret (res21 _ _ _ _ _ _ _ rfl hRw) rfl ?_
      rw [hm.out, HHS.out]
      exact ⟨_, rfl, hOw.mono (by omega), hBn⟩
  have h2 : 0 < commit := by omega
  clear h1
  by_cases he : es.length = 0
  · have h0 : es = [] := List.eq_nil_of_length_eq_zero he
    subst h0
    have hm : Hid (cut commit 0 = 0) := by unfold Hid cut; omega
    clear he
    go_enter Try.func21, Try.ntmps21
    go_wp2
    have HA := Lib.hid (hW.out (.cells #[.int .u64 0, .int .i64 0, .bool false, .slice none 0 0] 38) (.cells #[.int .u64 0, .int .i64 0, .bool false, .slice none 0 0] 38))
    generalize (w.alloc (.cells #[.int .u64 0, .int .i64 0, .bool false, .slice none 0 0] 38)).alloc (.cells #[.int .u64 0, .int .i64 0, .bool false, .slice none 0 0] 38) = W0 at *
    clear hW hz
    go_loopg [8, 18] (0) (fun k v8 v18 wr => ∃ i : Nat, i + k = 0 ∧ v18 = .int .i64 (i : Int) ∧ LineAt wr (w.heap.size + 1 + 1) (w.heap.size + 1) (foldL (([] : List Ent).take i)) ∧ Below (w.heap.size + 1) W0 wr)
    case atStart => exact ⟨0, by omega, rfl, hL0.out, Below.refl _ _⟩
    case round =>
      obtain ⟨i, hik, rfl, hLn, hB⟩ := hrel
      have HLn := Lib.hid hLn
      have HB := Lib.hid hB
      have hBw : Hid (Below w.heap.size w wr) := HA.out.1.trans (hB.mono (by omega))
      have hsz : w.heap.size + 1 + 1 ≤ wr.heap.size := by have := hB.size; have := HA.out.2; omega
      clear hLn hB
      have hlt : ¬ i < 0 := by omega
      obtain rfl : 0 = i := by omega
      obtain ⟨v, hLv, hOv⟩ := HLn.out
      unfold LineIs at hLv
      have hRv := (HB.out.block w.heap.size (by omega)).trans hR0.out
      obtain ⟨ga, gc, rfl, -⟩ := own_gids hOv
      generalize hs : foldL (([] : List Ent).take (0)) = s at *
      obtain ⟨s1, s2, s3, gs⟩ := s
      simp only at hLv hOv
      have c0 := cell_of_block hLv 0
      have c1 := cell_of_block hLv 1
      have c2 := cell_of_block hLv 2
      have c3 := cell_of_block hLv 3
      have r0 := cell_of_block hRv 0
      have r1 := cell_of_block hRv 1
      have r2 := cell_of_block hRv 2
      have r3 := cell_of_block hRv 3
      simp only [List.getElem?_toArray, List.getElem?_cons_zero, List.getElem?_cons_succ] at c0 c1 c2 c3 r0 r1 r2 r3
      have f0 := unfrozen_of_block hRv 0
      have f1 := unfrozen_of_block hRv 1
      have f2 := unfrozen_of_block hRv 2
      have f3 := unfrozen_of_block hRv 3
      have HLv := Lib.hid hLv
      have HOv := Lib.hid hOv
      have HRv := Lib.hid hRv
      have HHS := Lib.hid hs
      clear hLv hOv hRv hs
      go_wp2
      have hRw := line_cells HRv.out (.int .u64 s1) (.int .i64 s2) (.bool s3) (.slice ga gs.length gc)
      have hOw := (((OwnG.set HOv.out HRv.out 0 (.int .u64 s1)).set (block_setCell HRv.out _) 1 (.int .i64 s2)).set (block_setCell (block_setCell HRv.out _) _) 2 (.bool s3)).set (block_setCell (block_setCell (block_setCell HRv.out _) _) _) 3 (.slice ga gs.length gc)
      have hBn := (((hBw.out.setCell (p := ⟨w.heap.size, 0, none⟩) (Nat.le_refl _) (.int .u64 s1)).setCell (p := ⟨w.heap.size, 1, none⟩) (Nat.le_refl _) (.int .i64 s2)).setCell (p := ⟨w.heap.size, 2, none⟩) (Nat.le_refl _) (.bool s3)).setCell (p := ⟨w.heap.size, 3, none⟩) (Nat.le_refl _) (.slice ga gs.length gc)
      refine bodyPost_ret (res21 _ _ _ _ _ _ _ rfl hRw) rfl ?_
      rw [hm.out, HHS.out]
      exact ⟨_, rfl, hOw.mono (by omega), hBn⟩
  have hep : 0 < es.length := by omega
  clear he
  by_cases h3 : commit ≤ es.length
  · obtain ⟨m, rfl⟩ := Int.eq_ofNat_of_zero_le (show 0 ≤ commit by omega)
    have hm : Hid (cut (m : Int) es.length = m) := by unfold Hid cut; omega
    have hml : m ≤ es.length := by omega
    have hmp : 0 < m := by omega
    clear h2 h3
    go_enter Try.func21, Try.ntmps21
    go_wp2
    have HA := Lib.hid (hW.out (.cells #[.int .u64 0, .int .i64 0, .bool false, .slice none 0 0] 38) (.cells #[.int .u64 0, .int .i64 0, .bool false, .slice none 0 0] 38))
    generalize (w.alloc (.cells #[.int .u64 0, .int .i64 0, .bool false, .slice none 0 0] 38)).alloc (.cells #[.int .u64 0, .int .i64 0, .bool false, .slice none 0 0] 38) = W0 at *
    clear hW hz
    go_loopg [8, 18] (m) (fun k v8 v18 wr => ∃ i : Nat, i + k = m ∧ v18 = .int .i64 (i : Int) ∧ LineAt wr (w.heap.size + 1 + 1) (w.heap.size + 1) (foldL (es.take i)) ∧ Below (w.heap.size + 1) W0 wr)
    case atStart => exact ⟨0, by omega, rfl, hL0.out, Below.refl _ _⟩
    case round =>
      obtain ⟨i, hik, rfl, hLn, hB⟩ := hrel
      have HLn := Lib.hid hLn
      have HB := Lib.hid hB
      have hBw : Hid (Below w.heap.size w wr) := HA.out.1.trans (hB.mono (by omega))
      have hsz : w.heap.size + 1 + 1 ≤ wr.heap.size := by have := hB.size; have := HA.out.2; omega
      clear hLn hB
      by_cases hlt : i < m
      · obtain ⟨b, off, rfl, g⟩ := (HS.out.below hBw.out).ents i (by omega)
        have hst : Hid (foldL (es.take (i + 1)) = lstep (foldL (es.take i)) (es.getD i default)) := by rw [Hid, take_snoc es i default (by omega), foldL_snoc]
        have hgl : Hid ((foldL (es.take i)).2.2.2.length < 100000) := by have := foldL_len es i (by omega); unfold Hid; omega
        generalize foldL (es.take i) = s at *
        generalize es.getD i default = x at *
        obtain ⟨x1, x2, x3, x4⟩ := x
        obtain ⟨s1, s2, s3, gs⟩ := s
        obtain ⟨g1, g2, g3, g4⟩ := g
        simp only at g1 g2 g3 g4
        have hadd : Hid (∀ o, Calls Try.prog 39 #[.agg #[.int .u64 x1, .int .i64 x2, .int .u64 x3, .int .u64 x4], .pointer (some ⟨w.heap.size + 1, 0, none⟩)] (wr.alloc o) (StepPost (w.heap.size + 1) (w.heap.size + 1 + 1) (w.heap.size + 1) (lstep (s1, s2, s3, gs) (x1, x2, x3, x4)) (wr.alloc o))) := fun o =>
          add_any x1 x2 x3 x4 (w.heap.size + 1) (w.heap.size + 1 + 1) (w.heap.size + 1) s1 s2 s3 gs _ (HLn.out.below ((Below.refl _ wr).alloc (Nat.le_refl _) o)) (Nat.le_refl _) (by simp; omega) (by omega) hgl.out
        go_wp2_with (go_at_call 39; refine (hadd.out _).mono ?_; rintro e w3 ⟨⟨v3, rfl⟩, hL3, hb3⟩)
        go_roundg (gk - 1)
        case measure => omega
        case rel => exact ⟨i + 1, by omega, by simp, by rw [hst.out]; exact hL3, (HB.out.alloc (by omega) _).trans hb3⟩
      · obtain rfl : m = i := by omega
        obtain ⟨v, hLv, hOv⟩ := HLn.out
        unfold LineIs at hLv
        have hRv := (HB.out.block w.heap.size (by omega)).trans hR0.out
        obtain ⟨ga, gc, rfl, -⟩ := own_gids hOv
        generalize hs : foldL (es.take (m)) = s at *
        obtain ⟨s1, s2, s3, gs⟩ := s
        simp only at hLv hOv
        have c0 := cell_of_block hLv 0
        have c1 := cell_of_block hLv 1
        have c2 := cell_of_block hLv 2
        have c3 := cell_of_block hLv 3
        have r0 := cell_of_block hRv 0
        have r1 := cell_of_block hRv 1
        have r2 := cell_of_block hRv 2
        have r3 := cell_of_block hRv 3
        simp only [List.getElem?_toArray, List.getElem?_cons_zero, List.getElem?_cons_succ] at c0 c1 c2 c3 r0 r1 r2 r3
        have f0 := unfrozen_of_block hRv 0
        have f1 := unfrozen_of_block hRv 1
        have f2 := unfrozen_of_block hRv 2
        have f3 := unfrozen_of_block hRv 3
        have HLv := Lib.hid hLv
        have HOv := Lib.hid hOv
        have HRv := Lib.hid hRv
        have HHS := Lib.hid hs
        clear hLv hOv hRv hs
        go_wp2
        have hRw := line_cells HRv.out (.int .u64 s1) (.int .i64 s2) (.bool s3) (.slice ga gs.length gc)
        have hOw := (((OwnG.set HOv.out HRv.out 0 (.int .u64 s1)).set (block_setCell HRv.out _) 1 (.int .i64 s2)).set (block_setCell (block_setCell HRv.out _) _) 2 (.bool s3)).set (block_setCell (block_setCell (block_setCell HRv.out _) _) _) 3 (.slice ga gs.length gc)
        have hBn := (((hBw.out.setCell (p := ⟨w.heap.size, 0, none⟩) (Nat.le_refl _) (.int .u64 s1)).setCell (p := ⟨w.heap.size, 1, none⟩) (Nat.le_refl _) (.int .i64 s2)).setCell (p := ⟨w.heap.size, 2, none⟩) (Nat.le_refl _) (.bool s3)).setCell (p := ⟨w.heap.size, 3, none⟩) (Nat.le_refl _) (.slice ga gs.length gc)
        refine bodyPost_ret (res21 _ _ _ _ _ _ _ rfl hRw) rfl ?_
        rw [hm.out, HHS.out]
        exact ⟨_, rfl, hOw.mono (by omega), hBn⟩
  · have h4 : (es.length : Int) < commit := by omega
    have hm : Hid (cut commit es.length = es.length) := by unfold Hid cut; omega
    clear h2 h3
    go_enter Try.func21, Try.ntmps21
    go_wp2
    have HA := Lib.hid (hW.out (.cells #[.int .u64 0, .int .i64 0, .bool false, .slice none 0 0] 38) (.cells #[.int .u64 0, .int .i64 0, .bool false, .slice none 0 0] 38))
    generalize (w.alloc (.cells #[.int .u64 0, .int .i64 0, .bool false, .slice none 0 0] 38)).alloc (.cells #[.int .u64 0, .int .i64 0, .bool false, .slice none 0 0] 38) = W0 at *
    clear hW hz
    go_loopg [8, 18] (es.length) (fun k v8 v18 wr => ∃ i : Nat, i + k = es.length ∧ v18 = .int .i64 (i : Int) ∧ LineAt wr (w.heap.size + 1 + 1) (w.heap.size + 1) (foldL (es.take i)) ∧ Below (w.heap.size + 1) W0 wr)
    case atStart => exact ⟨0, by omega, rfl, hL0.out, Below.refl _ _⟩
    case round =>
      obtain ⟨i, hik, rfl, hLn, hB⟩ := hrel
      have HLn := Lib.hid hLn
      have HB := Lib.hid hB
      have hBw : Hid (Below w.heap.size w wr) := HA.out.1.trans (hB.mono (by omega))
      have hsz : w.heap.size + 1 + 1 ≤ wr.heap.size := by have := hB.size; have := HA.out.2; omega
      clear hLn hB
      by_cases hlt : i < es.length
      · obtain ⟨b, off, rfl, g⟩ := (HS.out.below hBw.out).ents i (by omega)
        have hst : Hid (foldL (es.take (i + 1)) = lstep (foldL (es.take i)) (es.getD i default)) := by rw [Hid, take_snoc es i default (by omega), foldL_snoc]
        have hgl : Hid ((foldL (es.take i)).2.2.2.length < 100000) := by have := foldL_len es i (by omega); unfold Hid; omega
        generalize foldL (es.take i) = s at *
        generalize es.getD i default = x at *
        obtain ⟨x1, x2, x3, x4⟩ := x
        obtain ⟨s1, s2, s3, gs⟩ := s
        obtain ⟨g1, g2, g3, g4⟩ := g
        simp only at g1 g2 g3 g4
        have hadd : Hid (∀ o, Calls Try.prog 39 #[.agg #[.int .u64 x1, .int .i64 x2, .int .u64 x3, .int .u64 x4], .pointer (some ⟨w.heap.size + 1, 0, none⟩)] (wr.alloc o) (StepPost (w.heap.size + 1) (w.heap.size + 1 + 1) (w.heap.size + 1) (lstep (s1, s2, s3, gs) (x1, x2, x3, x4)) (wr.alloc o))) := fun o =>
          add_any x1 x2 x3 x4 (w.heap.size + 1) (w.heap.size + 1 + 1) (w.heap.size + 1) s1 s2 s3 gs _ (HLn.out.below ((Below.refl _ wr).alloc (Nat.le_refl _) o)) (Nat.le_refl _) (by simp; omega) (by omega) hgl.out
        go_wp2_with (go_at_call 39; refine (hadd.out _).mono ?_; rintro e w3 ⟨⟨v3, rfl⟩, hL3, hb3⟩)
        go_roundg (gk - 1)
        case measure => omega
        case rel => exact ⟨i + 1, by omega, by simp, by rw [hst.out]; exact hL3, (HB.out.alloc (by omega) _).trans hb3⟩
      · obtain rfl : es.length = i := by omega
        obtain ⟨v, hLv, hOv⟩ := HLn.out
        unfold LineIs at hLv
        have hRv := (HB.out.block w.heap.size (by omega)).trans hR0.out
        obtain ⟨ga, gc, rfl, -⟩ := own_gids hOv
        generalize hs : foldL (es.take (es.length)) = s at *
        obtain ⟨s1, s2, s3, gs⟩ := s
        simp only at hLv hOv
        have c0 := cell_of_block hLv 0
        have c1 := cell_of_block hLv 1
        have c2 := cell_of_block hLv 2
        have c3 := cell_of_block hLv 3
        have r0 := cell_of_block hRv 0
        have r1 := cell_of_block hRv 1
        have r2 := cell_of_block hRv 2
        have r3 := cell_of_block hRv 3
        simp only [List.getElem?_toArray, List.getElem?_cons_zero, List.getElem?_cons_succ] at c0 c1 c2 c3 r0 r1 r2 r3
        have f0 := unfrozen_of_block hRv 0
        have f1 := unfrozen_of_block hRv 1
        have f2 := unfrozen_of_block hRv 2
        have f3 := unfrozen_of_block hRv 3
        have HLv := Lib.hid hLv
        have HOv := Lib.hid hOv
        have HRv := Lib.hid hRv
        have HHS := Lib.hid hs
        clear hLv hOv hRv hs
        go_wp2
        have hRw := line_cells HRv.out (.int .u64 s1) (.int .i64 s2) (.bool s3) (.slice ga gs.length gc)
        have hOw := (((OwnG.set HOv.out HRv.out 0 (.int .u64 s1)).set (block_setCell HRv.out _) 1 (.int .i64 s2)).set (block_setCell (block_setCell HRv.out _) _) 2 (.bool s3)).set (block_setCell (block_setCell (block_setCell HRv.out _) _) _) 3 (.slice ga gs.length gc)
        have hBn := (((hBw.out.setCell (p := ⟨w.heap.size, 0, none⟩) (Nat.le_refl _) (.int .u64 s1)).setCell (p := ⟨w.heap.size, 1, none⟩) (Nat.le_refl _) (.int .i64 s2)).setCell (p := ⟨w.heap.size, 2, none⟩) (Nat.le_refl _) (.bool s3)).setCell (p := ⟨w.heap.size, 3, none⟩) (Nat.le_refl _) (.slice ga gs.length gc)
        refine bodyPost_ret (res21 _ _ _ _ _ _ _ rfl hRw) rfl ?_
        rw [hm.out, HHS.out]
        exact ⟨_, rfl, hOw.mono (by omega), hBn⟩
end Go.Proofs.Ythfchmdfoaiibaa
