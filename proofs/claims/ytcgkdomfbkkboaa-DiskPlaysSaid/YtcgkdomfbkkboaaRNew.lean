/- A new reference. -/
import Derived.Test.YtcgkdomfbkkboaaRFits
import Derived.BigRegion
namespace Go.Proofs.Ytcgkdomfbkkboaa
open Go.RowKit Go.Joins Go.ChangeMaps

theorem info9' : (Try.prog.info? 9).map (fun i => (i.zero, i.size, i.bytes)) = some (some (.string ByteArray.empty), 1, 16) := by kernel_rfl
def blankA (n : Nat) : Array Value := (List.replicate n (Value.string ByteArray.empty)).toArray
theorem make_blank (W : World) (n : Nat) (hn : n ≤ 1024) : (Instr.makeSlice 36 (.int .i64 (n : Int)) (.int .i64 (n : Int))).run Try.prog W = .ok (.slice (some ⟨W.heap.size, 0, none⟩) n n) (W.alloc (.cells (blankA n) 9)) := by
  obtain ⟨i0, hi, hz0, hz1, hz2⟩ := info_parts info9'
  have h := run_make (P := Try.prog) W 36 9 i0 (.string ByteArray.empty) Try.underlying36 hi hz0 .i64 .i64 n n (by omega) (by omega) (by rw [hz2]; omega) (by omega)
  have e : madeCells (Value.string ByteArray.empty).cells n = blankA n := by
    apply Array.ext
    · simp [blankA, size_madeCells]
    · intro i h1 h2
      simp [blankA, madeCells, Value.cells, Nat.mod_one]
  rw [hz1, Nat.mul_one, show (n : Int).toNat = n from rfl, e] at h
  exact h
theorem blank_row (n : Nat) : rowOf (fun _ => none) (n : Int) = List.replicate n ByteArray.empty := by
  apply List.ext_getElem?
  intro i
  by_cases h : i < n <;> simp [rowOf, h]
theorem own_blank {W : World} {base g n : Nat} (hg : base ≤ g) (hb : W.heap[g]? = some (.cells (blankA n) 9 (0, 0))) (hn : n ≤ 1024) : OwnS W base (.slice (some ⟨g, 0, none⟩) n n) (rowOf (fun _ => none) (n : Int)) := by
  rw [blank_row]
  refine ⟨by rw [flatOf_length ES1], .inr ⟨g, n, blankA n, by simp, hg, hb, by simp, by unfold maxLen; omega, by simp [blankA], ?_⟩⟩
  rw [flatS]
  simp [blankA]
def RNewP (w : World) (s : St) (e : Ending) (w' : World) : Prop := ∃ q bv nv, e = .returned (.pointer (some ⟨q, 0, none⟩)) ∧ RD w' w.heap.size q bv nv (.slice none 0 0) s ∧ Below w.heap.size w w'
theorem rnew_of {w w' : World} {q g1 g2 : Nat} {n : Nat} {room : Int} (hn : n ≤ 1024) (hb : Below w.heap.size w w') (hq : w.heap.size ≤ q) (h1 : w.heap.size ≤ g1) (h2 : w.heap.size ≤ g2) (hne : g1 ≠ g2)
    (b : w'.heap[q]? = some (.cells #[.int .i64 (n : Int), .int .i64 room, .slice (some ⟨g1, 0, none⟩) n n, .slice (some ⟨g2, 0, none⟩) n n, .int .i64 0, .slice none 0 0, .int .i64 0, .bool true] 64 (0, 0)))
    (b1 : w'.heap[g1]? = some (.cells (blankA n) 9 (0, 0))) (b2 : w'.heap[g2]? = some (.cells (blankA n) 9 (0, 0))) : RNewP w (newS n room) (.returned (.pointer (some ⟨q, 0, none⟩))) w' := by
  refine ⟨q, .slice (some ⟨g1, 0, none⟩) n n, .slice (some ⟨g2, 0, none⟩) n n, rfl, ?_, hb⟩
  have hc : cntF (newS n room).now = 0 := cntF_zero
  show RR _ _ _ _ _ _ _ (cntF (newS n room).now) _ _ _
  rw [hc]
  exact ⟨b, hq, own_blank h1 b1 hn, own_blank h2 b2 hn, ownL_nil _ _, fun g hg e => by simp [Value.ownBlock] at hg e; omega⟩
theorem allocs3 (w : World) (o1 o2 o3 : Obj) : ((((w.alloc o1).alloc o2).alloc o3).drew).heap[w.heap.size]? = some o1 ∧ ((((w.alloc o1).alloc o2).alloc o3).drew).heap[w.heap.size + 1]? = some o2 ∧ ((((w.alloc o1).alloc o2).alloc o3).drew).heap[w.heap.size + 1 + 1]? = some o3 ∧ Below w.heap.size w (((w.alloc o1).alloc o2).alloc o3).drew := by
  have e1 : (w.alloc o1).heap.size = w.heap.size + 1 := by simp
  have e2 : ((w.alloc o1).alloc o2).heap.size = w.heap.size + 1 + 1 := by simp
  refine ⟨?_, ?_, ?_, (grew_trans (grew_trans (bel1 w o1) (bel1 _ o2)) (bel1 _ o3)).drew⟩
  · show (((w.alloc o1).alloc o2).alloc o3).heap[w.heap.size]? = some o1
    exact (Mod.belowAll (grew_trans (bel1 (w.alloc o1) o2) (bel1 _ o3))).heap (heap_alloc_new w o1) (fun c => c)
  · show (((w.alloc o1).alloc o2).alloc o3).heap[w.heap.size + 1]? = some o2
    have := heap_alloc_new (w.alloc o1) o2
    rw [e1] at this
    exact (Mod.belowAll (bel1 ((w.alloc o1).alloc o2) o3)).heap this (fun c => c)
  · show (((w.alloc o1).alloc o2).alloc o3).heap[w.heap.size + 1 + 1]? = some o3
    have := heap_alloc_new ((w.alloc o1).alloc o2) o3
    rw [e2] at this
    exact this
set_option maxHeartbeats 4000000 in
set_option maxRecDepth 100000 in
theorem rnew_any (n : Nat) (room : Int) (w : World) (h1 : 1 ≤ n) (h2 : n ≤ 1024) (h3 : 0 ≤ room) : Calls Try.prog 10 #[.int .i64 (n : Int), .int .i64 room] w (RNewP w (newS n room)) := by
  have mixed : Try.prog.follows .mixedOrders = true := by kernel_rfl
  have hmk := fun W => make_blank W n h2
  have h1' : (1 : Int) ≤ (n : Int) := by omega
  have h2' : (n : Int) ≤ 1024 := by omega
  go_enter Try.func10, Try.ntmps10
  go_upto_region 3 with fail
  go_region
  · go_wp2
    go_ret
    obtain ⟨b1, b2, b3, hb⟩ := allocs3 w (.cells (blankA n) 9) (.cells (blankA n) 9) (.cells #[.int .i64 (n : Int), .int .i64 room, .slice (some ⟨w.heap.size, 0, none⟩) n n, .slice (some ⟨w.heap.size + 1, 0, none⟩) n n, .int .i64 0, .slice none 0 0, .int .i64 0, .bool true] 64)
    exact rnew_of h2 hb (by omega) (Nat.le_refl _) (by omega) (by omega) b3 b1 b2
  · go_wp2
    go_ret
    obtain ⟨b1, b2, b3, hb⟩ := allocs3 w (.cells (blankA n) 9) (.cells (blankA n) 9) (.cells #[.int .i64 (n : Int), .int .i64 room, .slice (some ⟨w.heap.size + 1, 0, none⟩) n n, .slice (some ⟨w.heap.size, 0, none⟩) n n, .int .i64 0, .slice none 0 0, .int .i64 0, .bool true] 64)
    exact rnew_of h2 hb (by omega) (by omega) (Nat.le_refl _) (by omega) b3 b2 b1
theorem rnew_out (n room : Int) (w : World) (h : n < 1 ∨ 1024 < n ∨ room < 0) : Calls Try.prog 10 #[.int .i64 n, .int .i64 room] w (fun e w' => e = .returned (.pointer none) ∧ w' = w) := by
  by_cases h1 : n < 1
  · clear h
    go_enter Try.func10, Try.ntmps10
    go_wp2
    go_ret
    exact ⟨rfl, rfl⟩
  · have h1' : 1 ≤ n := by omega
    by_cases h2 : 1024 < n
    · clear h h1
      go_enter Try.func10, Try.ntmps10
      go_wp2
      go_ret
      exact ⟨rfl, rfl⟩
    · have h2' : n ≤ 1024 := by omega
      have h3 : room < 0 := by omega
      clear h h1 h2
      go_enter Try.func10, Try.ntmps10
      go_wp2
      go_ret
      exact ⟨rfl, rfl⟩
end Go.Proofs.Ytcgkdomfbkkboaa
