/- The walks of tree.but, tree.New and the reference's New. -/
import Derived.Test.YtbmnaimbognohaaRow
namespace Go.Proofs.Ytbmnaimbognohaa
open Go.RowKit Go.Joins

def butL (me : Int) (xs : List Int) : List Int := xs.filter fun n => n != me
theorem butL_step (me : Int) (xs : List Int) (k : Nat) (h : k < xs.length) : butL me (xs.take (k + 1)) = butL me (xs.take k) ++ (if xs.getD k 0 = me then [] else [xs.getD k 0]) := by
  rw [take_snoc xs k 0 h]
  unfold butL
  rw [List.filter_append]
  congr 1
  generalize xs.getD k 0 = t
  by_cases c : t = me
  · simp [c]
  · simp [c]
theorem butL_len (me : Int) (xs : List Int) (k : Nat) : (butL me (xs.take k)).length ≤ k := Nat.le_trans (List.length_filter_le _ _) (List.length_take_le _ _)

/-- What the closure 'keep' leaves: its box, what it has collected. -/
def KeepPost (B1 base : Nat) (xs : List Int) (w : World) (e : Ending) (w' : World) : Prop :=
  e = .returned (.tuple #[]) ∧ ∃ v, Boxed w' B1 35 v ∧ w'.ownsRow base 3 1 v xs.length (xs.map (Value.int .i64)) ∧ Mod (fun k => k = B1 ∨ base ≤ k) w w'

set_option maxHeartbeats 1000000 in
theorem keep_any (n me : Int) (B0 B1 base : Nat) (v : Value) (xs : List Int) (w : World) (h0 : w.cell? ⟨B0, 0, none⟩ = some (.int .i64 me)) (hB : Boxed w B1 35 v) (hb : B1 < base) (hbs : base ≤ w.heap.size)
    (hown : w.ownsRow base 3 1 v xs.length (xs.map (Value.int .i64))) (hl : xs.length ≤ 1000) :
    Calls Try.prog 21 #[.int .i64 n, .pointer (some ⟨B0, 0, none⟩), .pointer (some ⟨B1, 0, none⟩)] w (KeepPost B1 base (xs ++ (if n = me then [] else [n])) w) := by
  obtain ⟨i0, hi, hz0, hz1, hz2⟩ := info_parts Try.info3
  have hc1 := hB.cell
  by_cases hn : n = me
  · have hb1 : (n != me) = false := by simp [hn]
    have hx : Hid (xs ++ (if n = me then [] else [n]) = xs) := by simp [Hid, hn]
    generalize xs ++ (if n = me then [] else [n]) = ys at hx ⊢
    clear hn
    go_enter Try.func21, Try.ntmps21
    go_wp2
    go_end0
    exact ⟨rfl, v, hB, by rw [hx.out]; exact hown, Mod.refl _ _⟩
  · have hb1 : (n != me) = true := by simp [hn]
    have hx : Hid (xs ++ (if n = me then [] else [n]) = xs ++ [n]) := by simp [Hid, hn]
    generalize xs ++ (if n = me then [] else [n]) = ys at hx ⊢
    clear hn
    have HB := Lib.hid hB
    have hlt := hB.lt
    go_enter Try.func21, Try.ntmps21
    go_wp2_with (at_builtin; refine wpList_append_own _ rfl _ _ 35 rfl base 3 i0 (.int .i64 0) 1 8 Try.underlying35 hi hz0 hz1 hz2 rfl (by decide) _ _ _ rfl (hown.alloc _) ⟨w.heap.size, 0, none⟩ 1 1 [.int .i64 n] rfl rfl ?c1 ?c2 ?c3 ?c4 ?c5 ?_)
    case c1 => exact cell_one_new _ _ _
    case c2 => intro u hu; simp at hu; subst hu; rfl
    case c3 => unfold maxLen; omega
    case c4 => omega
    case c5 => simp; omega
    intro v' w1 hown' hgrow _
    obtain ⟨g', cap', rfl⟩ := ownsRow_succ hown'
    have hne : ∀ j, v.ownBlock = some j → base ≤ j := fun j hj => (hown.lt j hj).1
    have hB1 : Boxed w1 B1 35 v := (HB.out.alloc _).kept hgrow (fun e => by have := hne B1 e.symm; omega)
    have hc2 := hB1.cell
    have hf2 := hB1.frozen
    have hmod : Mod (fun k => k = B1 ∨ base ≤ k) w w1 := by
      refine Mod.trans (b := w.alloc _) ?_ (Mod.grown hgrow (fun k e => .inr (hne k e)))
      exact Mod.of_below (Joins.below_alloc1 w _) (Nat.le_refl _) _
    have hown3 : w1.ownsRow base 3 1 (.slice (some ⟨g', 0, none⟩) (xs.length + 1) cap') (xs.length + 1) ((xs ++ [n]).map (Value.int .i64)) := by simpa using hown'
    have Hown3 := Lib.hid hown3
    have HB1 := Lib.hid hB1
    clear hown' hgrow hown hown3 hB1
    go_wp2
    go_end0
    refine ⟨rfl, _, HB1.out.set _, ?_, hmod.trans (Mod.setCell (p := ⟨B1, 0, none⟩) (.inl rfl) _)⟩
    rw [hx.out]
    have := ownsRow_setCell_below Hown3.out (a := ⟨B1, 0, none⟩) hb (.slice (some ⟨g', 0, none⟩) (xs.length + 1) cap')
    simpa using this

set_option maxHeartbeats 1000000 in
theorem but_any (me : Int) (a : Option Addr) (len cap : Nat) (xs : List Int) (w : World) (hl : xs.length = len) (hm : len ≤ 1000) (hr : Row w a xs) :
    Calls Try.prog 16 #[.int .i64 me, .slice a len cap] w (RetRow (butL me xs) w) := by
  have hmf : ∀ (fn : Fn) (first cap : Array Value) (w : World), (Instr.makeFunc fn first cap).run Try.prog w = .ok (.func fn first cap) w := fun _ _ _ _ => rfl
  have Hr := Lib.hid hr; clear hr
  have Hl := Lib.hid hl; clear hl
  have hfin : butL me (xs.take len) = butL me xs := by rw [← Hl.out, List.take_length]
  have Hfin := Lib.hid hfin; clear hfin
  go_enter Try.func16, Try.ntmps16
  go_wp2_with fail
  go_loopw [12] (fun i wr => ∃ k : Nat, k ≤ len ∧ i = .int .i64 k ∧ wr.cell? ⟨w.heap.size, 0, none⟩ = some (.int .i64 me) ∧ (∃ v, Boxed wr (w.heap.size + 1) 35 v ∧
      wr.ownsRow (w.heap.size + 2) 3 1 v (butL me (xs.take k)).length ((butL me (xs.take k)).map (Value.int .i64))) ∧ Below w.heap.size w wr ∧ w.heap.size + 2 ≤ wr.heap.size) (fun i _ => len - (intOf i).toNat)
  case atStart =>
    refine ⟨0, Nat.zero_le _, rfl, ?_, ⟨_, ?_, World.ownsRow_nil _ _ _ _⟩, Joins.below_alloc2 w _ _, by simp⟩
    · rw [World.cell?_alloc_past _ _ _ (by simp), World.cell?_alloc_at _ _ _ _ rfl]; rfl
    · have := Boxed.new (w.alloc (.cells #[.int .i64 me] 3)) 35 (.slice none 0 0)
      simpa using this
  case round =>
    obtain ⟨k, hk, rfl, hM, ⟨v, hB, hown⟩, hb, hsz⟩ := hrel
    have Hex : Hid (∃ v, Boxed wr (w.heap.size + 1) 35 v ∧ wr.ownsRow (w.heap.size + 2) 3 1 v (butL me (xs.take k)).length ((butL me (xs.take k)).map (Value.int .i64))) := ⟨v, hB, hown⟩
    by_cases hlt : k < len
    · obtain ⟨b, off, rfl, hcell0⟩ := Hr.out k (by rw [Hl.out]; exact hlt)
      have hcell : wr.cell? ⟨b, off + k, none⟩ = some (.int .i64 (xs.getD k 0)) := (hb.cell (World.block_lt_of_cell? _ _ hcell0)).trans hcell0
      have hs := butL_step me xs k (by rw [Hl.out]; exact hlt)
      have hbl := butL_len me xs k
      have Hs := Lib.hid hs
      clear hcell0 hs
      generalize xs.getD k 0 = t at *
      have Hcall := Lib.hid (keep_any t me w.heap.size (w.heap.size + 1) (w.heap.size + 2) v (butL me (xs.take k)) wr hM hB (by omega) hsz hown (by omega))
      clear hown hB Hex
      go_wp2_with (go_at_call 21; refine Hcall.out.mono ?_; rintro e w1 ⟨rfl, v1, hB1, hown1, hmod⟩; have HB1 := Lib.hid hB1; have Hown1 := Lib.hid hown1; have Hmod := Lib.hid hmod; clear hB1 hown1 hmod)
      go_roundw
      case rel =>
        refine ⟨k + 1, by omega, by go_num, Hmod.out.cell hM (by simp), ⟨v1, HB1.out, ?_⟩, ?_, Nat.le_trans hsz Hmod.out.size⟩
        · rw [Hs.out]; exact Hown1.out
        · exact hb.trans ((Hmod.out.below (B := w.heap.size) (by omega) (by intro j hj; omega)))
      case measure => simp [intOf]; omega
    · obtain rfl : k = len := by omega
      have hc := hB.cell
      rw [Hfin.out] at hown
      obtain ⟨ar, cp, rfl, _⟩ := own_row hown
      have Hown := Lib.hid hown
      clear hown hB Hex
      go_wp2
      go_ret
      exact ⟨_, rfl, ownsRow_le Hown.out (by omega), hb⟩

/-- What New leaves: a tree in new memory. -/
def NewPost (t : T) (w : World) (e : Ending) (w' : World) : Prop :=
  ∃ g r cap, e = .returned (.pointer (some ⟨g, 0, none⟩)) ∧ Tr w' g r cap t ∧ Below w.heap.size w w' ∧ w.heap.size ≤ g ∧ w.heap.size ≤ r

theorem butL_low (me : Nat) (h : me < 3) : butL me [0, 1, 2] = rowL me := by
  match me, h with
  | 0, _ => decide
  | 1, _ => decide
  | 2, _ => decide
theorem butL_high (me : Nat) (h : 3 ≤ me) (h6 : me < 6) : butL me (([4, 3, 2, 1, 0] : List Int).drop (5 - me)) = rowL me := by
  match me, h, h6 with
  | 3, _, _ => decide
  | 4, _, _ => decide
  | 5, _, _ => decide

set_option maxHeartbeats 1000000 in
theorem new_none (me clock : Int) (w : World) (h : me < 0 ∨ 6 ≤ me) : Calls Try.prog 7 #[.int .i64 me, .int .i64 clock] w fun e w' => e = .returned (.pointer none) ∧ w = w' := by
  rcases h with h | h
  · go_enter Try.func7, Try.ntmps7
    go_wp2
    go_ret
    exact ⟨rfl, rfl⟩
  · have h0 : ¬ me < 0 := by omega
    go_enter Try.func7, Try.ntmps7
    go_wp2
    go_ret
    exact ⟨rfl, rfl⟩

theorem tr_made {w : World} {g r cap : Nat} {t : T} {n : Nat} (hn : n = (rowL t.me).length) (hg : w.heap[g]? = some (.cells #[.int .i64 t.me, .slice (some ⟨r, 0, none⟩) n cap, .int .i64 t.place, .int .i64 t.time] 39 (0, 0))) (hr : Row w (some ⟨r, 0, none⟩) (rowL t.me)) (hne : r ≠ g) : Tr w g r cap t := by
  subst hn
  refine ⟨hg, fun i hi => ?_, hne⟩
  obtain ⟨b, off, e, hc⟩ := hr i hi
  simp at e; obtain ⟨rfl, rfl⟩ := e
  rw [Nat.zero_add] at hc
  exact hc

set_option maxHeartbeats 1000000 in
theorem new_3 (clock : Int) (w : World) : Calls Try.prog 7 #[.int .i64 3, .int .i64 clock] w (NewPost ⟨3, 0, clock⟩ w) := by
  have hrow : Row (w.alloc (.cells #[.int .i64 0, .int .i64 1, .int .i64 2] 3)) (some ⟨w.heap.size, 0, none⟩) [0, 1, 2] := row_lit w 3 _ [0, 1, 2] rfl
  have Hrow := Lib.hid hrow
  clear hrow
  have hsl : ∀ (a : Nat) (w : World), (Instr.sliceAt 40 (.pointer (some ⟨a, 0, none⟩)) (some (.int .i64 2)) none none).run Try.prog w = .ok (.slice (some ⟨a, 2, none⟩) 3 3) w := fun _ _ => by kernel_rfl
  go_enter Try.func7, Try.ntmps7
  go_wp2_with fail
  refine (but_any _ _ _ _ [0, 1, 2] _ rfl (by decide) Hrow.out).mono ?_
  rintro e w1 ⟨v, rfl, hown, hb⟩
  obtain ⟨ar, cp, rfl, -, -, -, -, -, -⟩ := own_row hown
  clear hown
  have Hb := Lib.hid hb
  clear hb
  go_wp2_with fail
  generalize hbl : (butL 3 [0, 1, 2]).length = nb
  clear hbl
  obtain ⟨W2, HW2⟩ : ∃ W2, Hid (W2 = (w1.alloc (.cells #[.int .i64 3, .slice ar nb cp, .int .i64 0, .int .i64 clock] 39)).alloc (.cells #[.int .i64 4, .int .i64 3, .int .i64 2, .int .i64 1, .int .i64 0] 40)) := ⟨_, rfl⟩
  rw [← HW2.out]
  have hrow2 : Row W2 (some ⟨w1.heap.size + 1, 2, none⟩) (([4, 3, 2, 1, 0] : List Int).drop 2) := by
    rw [HW2.out]
    have := row_drop (row_lit (w1.alloc (.cells #[.int .i64 3, .slice ar nb cp, .int .i64 0, .int .i64 clock] 39)) 40 (w1.heap.size + 1) [4, 3, 2, 1, 0] (by simp)) 2
    simpa using this
  have hsz2 : W2.heap.size = w1.heap.size + 2 := by rw [HW2.out]; simp
  have hg2 : W2.heap[w1.heap.size]? = some (.cells #[.int .i64 3, .slice ar nb cp, .int .i64 0, .int .i64 clock] 39 (0, 0)) := by
    rw [HW2.out, Below.heap_alloc _ _ _ (by simp)]; exact World.alloc_heap_new _ _
  have hb2 : Below w.heap.size w W2 := by
    have h1 : Below w.heap.size w w1 := (Joins.below_alloc1 w _).trans (Hb.out.mono (by simp))
    have h2 := h1.size
    rw [HW2.out]; exact (h1.alloc h2 _).alloc (by simp; omega) _
  have hw1 : w.heap.size ≤ w1.heap.size := by have := Hb.out.size; simp at this; omega
  clear HW2
  refine (but_any _ _ _ _ (([4, 3, 2, 1, 0] : List Int).drop 2) _ rfl (by decide) hrow2).mono ?_
  rintro e w3 ⟨v, rfl, hown, hb3⟩
  rw [show butL 3 (([4, 3, 2, 1, 0] : List Int).drop 2) = rowL 3 by decide] at hown
  obtain ⟨r, cp3, rfl, hr⟩ := own_slice hown (by decide)
  have Hg3 := Lib.hid ((hb3.block w1.heap.size (by omega)).trans hg2)
  have hc3 := cell_of_block Hg3.out 1
  have hf3 := unfrozen_of_block Hg3.out 1
  have Hown := Lib.hid hown
  clear hown hrow2 hg2
  go_wp2_with fail
  go_ret
  refine ⟨w1.heap.size, r, cp3, rfl, tr_made (t := ⟨3, 0, clock⟩) (n := (rowL 3).length) rfl ?_ ?_ (by omega), ?_, hw1, by omega⟩
  · have := block_setCell (i := 1) Hg3.out (.slice (some ⟨r, 0, none⟩) (rowL 3).length cp3); simpa using this
  · exact row_mod (row_of_own Hown.out) (Mod.cellOf w1.heap.size 1 _) (by omega)
  · exact (hb2.trans (hb3.mono hb2.size)).setCell (by simpa using hw1) _

set_option maxHeartbeats 1000000 in
theorem new_4 (clock : Int) (w : World) : Calls Try.prog 7 #[.int .i64 4, .int .i64 clock] w (NewPost ⟨4, 0, clock⟩ w) := by
  have hrow : Row (w.alloc (.cells #[.int .i64 0, .int .i64 1, .int .i64 2] 3)) (some ⟨w.heap.size, 0, none⟩) [0, 1, 2] := row_lit w 3 _ [0, 1, 2] rfl
  have Hrow := Lib.hid hrow
  clear hrow
  have hsl : ∀ (a : Nat) (w : World), (Instr.sliceAt 40 (.pointer (some ⟨a, 0, none⟩)) (some (.int .i64 1)) none none).run Try.prog w = .ok (.slice (some ⟨a, 1, none⟩) 4 4) w := fun _ _ => by kernel_rfl
  go_enter Try.func7, Try.ntmps7
  go_wp2_with fail
  refine (but_any _ _ _ _ [0, 1, 2] _ rfl (by decide) Hrow.out).mono ?_
  rintro e w1 ⟨v, rfl, hown, hb⟩
  obtain ⟨ar, cp, rfl, -, -, -, -, -, -⟩ := own_row hown
  clear hown
  have Hb := Lib.hid hb
  clear hb
  go_wp2_with fail
  generalize hbl : (butL 4 [0, 1, 2]).length = nb
  clear hbl
  obtain ⟨W2, HW2⟩ : ∃ W2, Hid (W2 = (w1.alloc (.cells #[.int .i64 4, .slice ar nb cp, .int .i64 0, .int .i64 clock] 39)).alloc (.cells #[.int .i64 4, .int .i64 3, .int .i64 2, .int .i64 1, .int .i64 0] 40)) := ⟨_, rfl⟩
  rw [← HW2.out]
  have hrow2 : Row W2 (some ⟨w1.heap.size + 1, 1, none⟩) (([4, 3, 2, 1, 0] : List Int).drop 1) := by
    rw [HW2.out]
    have := row_drop (row_lit (w1.alloc (.cells #[.int .i64 4, .slice ar nb cp, .int .i64 0, .int .i64 clock] 39)) 40 (w1.heap.size + 1) [4, 3, 2, 1, 0] (by simp)) 1
    simpa using this
  have hsz2 : W2.heap.size = w1.heap.size + 2 := by rw [HW2.out]; simp
  have hg2 : W2.heap[w1.heap.size]? = some (.cells #[.int .i64 4, .slice ar nb cp, .int .i64 0, .int .i64 clock] 39 (0, 0)) := by
    rw [HW2.out, Below.heap_alloc _ _ _ (by simp)]; exact World.alloc_heap_new _ _
  have hb2 : Below w.heap.size w W2 := by
    have h1 : Below w.heap.size w w1 := (Joins.below_alloc1 w _).trans (Hb.out.mono (by simp))
    have h2 := h1.size
    rw [HW2.out]; exact (h1.alloc h2 _).alloc (by simp; omega) _
  have hw1 : w.heap.size ≤ w1.heap.size := by have := Hb.out.size; simp at this; omega
  clear HW2
  refine (but_any _ _ _ _ (([4, 3, 2, 1, 0] : List Int).drop 1) _ rfl (by decide) hrow2).mono ?_
  rintro e w3 ⟨v, rfl, hown, hb3⟩
  rw [show butL 4 (([4, 3, 2, 1, 0] : List Int).drop 1) = rowL 4 by decide] at hown
  obtain ⟨r, cp3, rfl, hr⟩ := own_slice hown (by decide)
  have Hg3 := Lib.hid ((hb3.block w1.heap.size (by omega)).trans hg2)
  have hc3 := cell_of_block Hg3.out 1
  have hf3 := unfrozen_of_block Hg3.out 1
  have Hown := Lib.hid hown
  clear hown hrow2 hg2
  go_wp2_with fail
  go_ret
  refine ⟨w1.heap.size, r, cp3, rfl, tr_made (t := ⟨4, 0, clock⟩) (n := (rowL 4).length) rfl ?_ ?_ (by omega), ?_, hw1, by omega⟩
  · have := block_setCell (i := 1) Hg3.out (.slice (some ⟨r, 0, none⟩) (rowL 4).length cp3); simpa using this
  · exact row_mod (row_of_own Hown.out) (Mod.cellOf w1.heap.size 1 _) (by omega)
  · exact (hb2.trans (hb3.mono hb2.size)).setCell (by simpa using hw1) _

set_option maxHeartbeats 1000000 in
theorem new_5 (clock : Int) (w : World) : Calls Try.prog 7 #[.int .i64 5, .int .i64 clock] w (NewPost ⟨5, 0, clock⟩ w) := by
  have hrow : Row (w.alloc (.cells #[.int .i64 0, .int .i64 1, .int .i64 2] 3)) (some ⟨w.heap.size, 0, none⟩) [0, 1, 2] := row_lit w 3 _ [0, 1, 2] rfl
  have Hrow := Lib.hid hrow
  clear hrow
  have hsl : ∀ (a : Nat) (w : World), (Instr.sliceAt 40 (.pointer (some ⟨a, 0, none⟩)) (some (.int .i64 0)) none none).run Try.prog w = .ok (.slice (some ⟨a, 0, none⟩) 5 5) w := fun _ _ => by kernel_rfl
  go_enter Try.func7, Try.ntmps7
  go_wp2_with fail
  refine (but_any _ _ _ _ [0, 1, 2] _ rfl (by decide) Hrow.out).mono ?_
  rintro e w1 ⟨v, rfl, hown, hb⟩
  obtain ⟨ar, cp, rfl, -, -, -, -, -, -⟩ := own_row hown
  clear hown
  have Hb := Lib.hid hb
  clear hb
  go_wp2_with fail
  generalize hbl : (butL 5 [0, 1, 2]).length = nb
  clear hbl
  obtain ⟨W2, HW2⟩ : ∃ W2, Hid (W2 = (w1.alloc (.cells #[.int .i64 5, .slice ar nb cp, .int .i64 0, .int .i64 clock] 39)).alloc (.cells #[.int .i64 4, .int .i64 3, .int .i64 2, .int .i64 1, .int .i64 0] 40)) := ⟨_, rfl⟩
  rw [← HW2.out]
  have hrow2 : Row W2 (some ⟨w1.heap.size + 1, 0, none⟩) (([4, 3, 2, 1, 0] : List Int).drop 0) := by
    rw [HW2.out]
    have := row_drop (row_lit (w1.alloc (.cells #[.int .i64 5, .slice ar nb cp, .int .i64 0, .int .i64 clock] 39)) 40 (w1.heap.size + 1) [4, 3, 2, 1, 0] (by simp)) 0
    simpa using this
  have hsz2 : W2.heap.size = w1.heap.size + 2 := by rw [HW2.out]; simp
  have hg2 : W2.heap[w1.heap.size]? = some (.cells #[.int .i64 5, .slice ar nb cp, .int .i64 0, .int .i64 clock] 39 (0, 0)) := by
    rw [HW2.out, Below.heap_alloc _ _ _ (by simp)]; exact World.alloc_heap_new _ _
  have hb2 : Below w.heap.size w W2 := by
    have h1 : Below w.heap.size w w1 := (Joins.below_alloc1 w _).trans (Hb.out.mono (by simp))
    have h2 := h1.size
    rw [HW2.out]; exact (h1.alloc h2 _).alloc (by simp; omega) _
  have hw1 : w.heap.size ≤ w1.heap.size := by have := Hb.out.size; simp at this; omega
  clear HW2
  refine (but_any _ _ _ _ (([4, 3, 2, 1, 0] : List Int).drop 0) _ rfl (by decide) hrow2).mono ?_
  rintro e w3 ⟨v, rfl, hown, hb3⟩
  rw [show butL 5 (([4, 3, 2, 1, 0] : List Int).drop 0) = rowL 5 by decide] at hown
  obtain ⟨r, cp3, rfl, hr⟩ := own_slice hown (by decide)
  have Hg3 := Lib.hid ((hb3.block w1.heap.size (by omega)).trans hg2)
  have hc3 := cell_of_block Hg3.out 1
  have hf3 := unfrozen_of_block Hg3.out 1
  have Hown := Lib.hid hown
  clear hown hrow2 hg2
  go_wp2_with fail
  go_ret
  refine ⟨w1.heap.size, r, cp3, rfl, tr_made (t := ⟨5, 0, clock⟩) (n := (rowL 5).length) rfl ?_ ?_ (by omega), ?_, hw1, by omega⟩
  · have := block_setCell (i := 1) Hg3.out (.slice (some ⟨r, 0, none⟩) (rowL 5).length cp3); simpa using this
  · exact row_mod (row_of_own Hown.out) (Mod.cellOf w1.heap.size 1 _) (by omega)
  · exact (hb2.trans (hb3.mono hb2.size)).setCell (by simpa using hw1) _

set_option maxHeartbeats 1000000 in
theorem new_low (me : Nat) (clock : Int) (w : World) (h : me < 3) : Calls Try.prog 7 #[.int .i64 me, .int .i64 clock] w (NewPost ⟨me, 0, clock⟩ w) := by
  have h0 : ¬ ((me : Int) < 0) := by omega
  have h6 : ¬ ((6 : Int) ≤ (me : Int)) := by omega
  have h3 : ¬ ((3 : Int) ≤ (me : Int)) := by omega
  have hrow : Row (w.alloc (.cells #[.int .i64 0, .int .i64 1, .int .i64 2] 3)) (some ⟨w.heap.size, 0, none⟩) [0, 1, 2] := row_lit w 3 _ [0, 1, 2] rfl
  have Hrow := Lib.hid hrow
  have Hbl := Lib.hid (butL_low me h)
  clear hrow
  go_enter Try.func7, Try.ntmps7
  go_wp2_with fail
  refine (but_any _ _ _ _ [0, 1, 2] _ rfl (by decide) Hrow.out).mono ?_
  rintro e w1 ⟨v, rfl, hown, hb⟩
  rw [Hbl.out] at hown
  obtain ⟨r, cp, rfl, hr⟩ := own_slice hown (by have := rowL_pos me (by omega); omega)
  have Hb := Lib.hid hb
  have Hown := Lib.hid hown
  have hrs := (hown.lt r rfl).2
  clear hb hown
  go_wp2_with fail
  go_ret
  have h1 : Below w.heap.size w w1 := (Joins.below_alloc1 w _).trans (Hb.out.mono (by simp))
  have h2 := h1.size
  simp at hr
  refine ⟨w1.heap.size, r, cp, rfl, tr_made (t := ⟨me, 0, clock⟩) rfl ?_ ?_ (by omega), (h1.alloc h2 _).alloc (by simp; omega) _, h2, by omega⟩
  · rw [Below.heap_alloc _ _ _ (by simp)]; exact World.alloc_heap_new _ _
  · exact row_mod (row_of_own Hown.out) (Mod.of_below (Joins.below_alloc2 w1 _ _) (Nat.le_refl _) (fun _ => False)) (fun h => h)

theorem new_any (me : Nat) (clock : Int) (w : World) (h : me < 6) : Calls Try.prog 7 #[.int .i64 me, .int .i64 clock] w (NewPost ⟨me, 0, clock⟩ w) := by
  by_cases h3 : me < 3
  · exact new_low me clock w h3
  · match me, h, h3 with
    | 3, _, _ => exact new_3 clock w
    | 4, _, _ => exact new_4 clock w
    | 5, _, _ => exact new_5 clock w

/-- What the reference's New leaves. -/
def RNewPost (t : T) (w : World) (e : Ending) (w' : World) : Prop :=
  ∃ g, e = .returned (.pointer (some ⟨g, 0, none⟩)) ∧ w'.heap[g]? = some (.cells #[.int .i64 t.me, .int .i64 t.place, .int .i64 t.time] 42 (0, 0)) ∧ Below w.heap.size w w' ∧ w.heap.size ≤ g

theorem rnew_none (me clock : Int) (w : World) (h : me < 0 ∨ 6 ≤ me) : Calls Try.prog 8 #[.int .i64 me, .int .i64 clock] w fun e w' => e = .returned (.pointer none) ∧ w = w' := by
  rcases h with h | h
  · go_enter Try.func8, Try.ntmps8
    go_wp2
    go_ret
    exact ⟨rfl, rfl⟩
  · have h0 : ¬ me < 0 := by omega
    go_enter Try.func8, Try.ntmps8
    go_wp2
    go_ret
    exact ⟨rfl, rfl⟩

theorem rnew_any (me : Nat) (clock : Int) (w : World) (h : me < 6) : Calls Try.prog 8 #[.int .i64 me, .int .i64 clock] w (RNewPost ⟨me, 0, clock⟩ w) := by
  have h0 : ¬ ((me : Int) < 0) := by omega
  have h6 : ¬ ((6 : Int) ≤ (me : Int)) := by omega
  go_enter Try.func8, Try.ntmps8
  go_wp2
  go_ret
  exact ⟨w.heap.size, rfl, World.alloc_heap_new _ _, Joins.below_alloc1 w _, Nat.le_refl _⟩
end Go.Proofs.Ytbmnaimbognohaa
