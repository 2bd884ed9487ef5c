/- A disk is read, and flushed. -/
import Derived.Test.YtcgkdomfbkkboaaData
namespace Go.Proofs.Ytcgkdomfbkkboaa
open Go.RowKit Go.Joins Go.ChangeMaps

theorem wf64 {i : Int} (h0 : -9223372036854775808 ≤ i) (h1 : i ≤ 9223372036854775807) : (Lit.int .i64 i).wf = true := by
  simp [Lit.wf, IntKind.min, IntKind.max, IntKind.signed, IntKind.bits]; omega
def RetSI (b : BA) (n : Int) (w : World) (e : Ending) (w' : World) : Prop := e = .returned (.tuple #[.string b, .int .i64 n]) ∧ Below w.heap.size w w'
set_option maxHeartbeats 1000000 in
set_option maxRecDepth 100000 in
theorem read_any {w : World} {base p bm : Nat} {v : Value} {s : St} (i : Int) (h : PD w base p bm v s) (hg : Good s) : Calls Try.prog 18 #[.pointer (some ⟨p, 0, none⟩), .int .i64 i] w (RetSI (readR s i).1 (readR s i).2 w) := by
  have hs := state_any h
  have ht := there_any i h
  obtain ⟨⟨g0, -, -, -, -, -⟩, -⟩ := h.cells
  have HL := Lib.hid (fun (hw : (Lit.int .i64 i).wf = true) => h.map.look_ok hw)
  have hnow := Lib.hid (fun x hx => (hg.now i x hx).2.2)
  have hlen := hg.len
  clear h hg
  unfold readR
  simp only [St.fl] at hs ht
  unfold errF at hs
  by_cases ho : s.off = true
  · rw [if_pos ho]
    rw [ho] at hs
    clear ht HL hnow
    go_enter Try.func18, Try.ntmps18
    go_wp2_with (go_at_call 30; refine hs.mono ?_; rintro e w1 ⟨rfl, rfl⟩)
    refine bodyPost_ret (results_tmp2 rfl _ _ _) rfl ?_
    exact ⟨rfl, Below.refl _ _⟩
  · rw [if_neg ho]
    have ho2 : s.off = false := by simpa using ho
    rw [ho2] at hs
    clear ho
    by_cases hi : 0 ≤ i ∧ i < s.len
    · rw [if_neg (fun c => c hi)]
      rw [show inB s.len i = true from decide_eq_true hi] at ht
      have hl := HL.out (wf64 (by omega) (by omega))
      cases hx : s.now i with
      | some x =>
        rw [hx] at hl
        simp only [Option.getD_some, Option.isSome_some] at hl ⊢
        have hl2 : (Instr.lookup 58 (.map (some bm)) (.int .i64 i) true).run Try.prog w = .ok (.tuple #[.string x, .bool true]) w := hl
        clear hl HL hx hnow
        go_enter Try.func18, Try.ntmps18
        go_wp2_with (first
          | (go_at_call 30; refine hs.mono ?_; rintro e w1 ⟨rfl, rfl⟩)
          | (go_at_call 31; refine ht.mono ?_; rintro e w1 ⟨rfl, rfl⟩))
        refine bodyPost_ret (results_tmp2 rfl _ _ _) rfl ?_
        exact ⟨rfl, Below.refl _ _⟩
      | none =>
        rw [hx] at hl
        simp only [Option.getD_none, Option.isSome_none] at hl ⊢
        have hl2 : (Instr.lookup 58 (.map (some bm)) (.int .i64 i) true).run Try.prog w = .ok (.tuple #[.string ByteArray.empty, .bool false]) w := hl
        have hmk := make32 0 w
        have hcv := conv32 0 32 (by omega) (w.alloc (.cells (fillA 0 0) 5)) w.heap.size (by rw [heap_alloc_new]; rfl)
        rw [show strOfNums (List.replicate 32 0) = zeros from rfl] at hcv
        have hB := Lib.hid (bel1 w (.cells (fillA 0 0) 5))
        generalize zeros = Z at *
        clear hl HL hx hnow
        go_enter Try.func18, Try.ntmps18
        go_wp2_with (first
          | (go_at_call 30; refine hs.mono ?_; rintro e w1 ⟨rfl, rfl⟩)
          | (go_at_call 31; refine ht.mono ?_; rintro e w1 ⟨rfl, rfl⟩))
        refine bodyPost_ret (results_tmp2 rfl _ _ _) rfl ?_
        exact ⟨rfl, hB.out⟩
    · rw [if_pos hi]
      rw [show inB s.len i = false from decide_eq_false hi] at ht
      clear HL hi hnow
      go_enter Try.func18, Try.ntmps18
      go_wp2_with (first
          | (go_at_call 30; refine hs.mono ?_; rintro e w1 ⟨rfl, rfl⟩)
          | (go_at_call 31; refine ht.mono ?_; rintro e w1 ⟨rfl, rfl⟩))
      refine bodyPost_ret (results_tmp2 rfl _ _ _) rfl ?_
      exact ⟨rfl, Below.refl _ _⟩
end Go.Proofs.Ytcgkdomfbkkboaa
