/- The entries that the laws make; is; works. -/
import Derived.Test.YthfchmdfoaiibaaRFold
import Derived.Test.YthfchmdfoaiibaaRJoin
import Derived.Test.YthfchmdfoaiibaaChk3
namespace Go.Proofs.Ythfchmdfoaiibaa
open Go.RowKit Go.Joins

def RetV (v : Value) (w : World) (e : Ending) (w' : World) : Prop := e = .returned v ∧ Below w.heap.size w w'

set_option maxRecDepth 100000 in
theorem epoch_new (t : Int) (w : World) : Calls Try.prog 30 #[.int .u64 t] w (RetV (.agg #[.int .u64 t, .int .i64 1, .int .u64 0, .int .u64 0]) w) := by
  have hb : Hid (∀ o, Below w.heap.size w (w.alloc o)) := fun o => (Below.refl _ w).alloc (Nat.le_refl _) o
  go_enter Try.func30, Try.ntmps30
  go_wp2
  exact bodyPost_ret (v := .agg #[.int .u64 t, .int .i64 1, .int .u64 0, .int .u64 0]) (by simp [results, Try.results30, go_sem]) rfl ⟨rfl, hb.out _⟩

set_option maxRecDepth 100000 in
theorem lease_new (t : Int) (w : World) : Calls Try.prog 32 #[.int .u64 t] w (RetV (.agg #[.int .u64 t, .int .i64 2, .int .u64 0, .int .u64 0]) w) := by
  have hb : Hid (∀ o, Below w.heap.size w (w.alloc o)) := fun o => (Below.refl _ w).alloc (Nat.le_refl _) o
  go_enter Try.func32, Try.ntmps32
  go_wp2
  exact bodyPost_ret (v := .agg #[.int .u64 t, .int .i64 2, .int .u64 0, .int .u64 0]) (by simp [results, Try.results32, go_sem]) rfl ⟨rfl, hb.out _⟩

set_option maxRecDepth 100000 in
theorem commit_new (t n : Int) (w : World) : Calls Try.prog 29 #[.int .u64 t, .int .u64 n] w (RetV (.agg #[.int .u64 t, .int .i64 3, .int .u64 t, .int .u64 n]) w) := by
  have hb : Hid (∀ o, Below w.heap.size w (w.alloc o)) := fun o => (Below.refl _ w).alloc (Nat.le_refl _) o
  go_enter Try.func29, Try.ntmps29
  go_wp2
  exact bodyPost_ret (v := .agg #[.int .u64 t, .int .i64 3, .int .u64 t, .int .u64 n]) (by simp [results, Try.results29, go_sem]) rfl ⟨rfl, hb.out _⟩

set_option maxRecDepth 100000 in
theorem guid_new (t n : Int) (w : World) : Calls Try.prog 31 #[.int .u64 t, .int .u64 n] w (RetV (.agg #[.int .u64 t, .int .u64 n]) w) := by
  have hb : Hid (∀ o, Below w.heap.size w (w.alloc o)) := fun o => (Below.refl _ w).alloc (Nat.le_refl _) o
  go_enter Try.func31, Try.ntmps31
  go_wp2
  exact bodyPost_ret (v := .agg #[.int .u64 t, .int .u64 n]) (by simp [results, Try.results31, go_sem]) rfl ⟨rfl, hb.out _⟩

set_option maxRecDepth 100000 in
set_option maxHeartbeats 1000000 in
theorem is_any (e1 b1 e2 b2 : Int) (l1 l2 : Bool) (gs hs : List Gid) (ax ay : Option Addr) (cx cy : Nat) (w : World) (hx : Gids w ax gs) (hy : Gids w ay hs) (hlx : hs.length ≤ maxLen) :
    Calls Try.prog 33 #[.agg #[.int .u64 e1, .int .i64 b1, .bool l1, .slice ax gs.length cx], .int .u64 e2, .int .i64 b2, .bool l2, .slice ay hs.length cy] w (RetB (eqL (e1, b1, l1, gs) (e2, b2, l2, hs)) w) := by
  unfold maxLen at hlx
  have HB : Hid (∀ (o1 : Obj), Below w.heap.size w (w.alloc o1)) := fun o1 => (Below.refl _ w).alloc (Nat.le_refl _) o1
  have hO : Hid (eqL (e1, b1, l1, gs) (e2, b2, l2, hs) = (decide (e1 = e2) && (decide (b1 = b2) && (decide (l1 = l2) && decide (gs = hs))))) := by
    unfold Hid eqL
    rw [Bool.eq_iff_iff]; simp
  by_cases h1 : e1 = e2
  · subst h1
    have q1 : (e1 != e1) = false := by simp
    by_cases h2 : b1 = b2
    · subst h2
      have q2 : (b1 != b1) = false := by simp
      by_cases h3 : l1 = l2
      · subst h3
        have q3 : (l1 != l1) = false := by simp
        have q3b : (l1 == l1) = true := by simp
        by_cases hl : gs.length = hs.length
        · have hb : ((gs.length : Int) == (hs.length : Int)) = true := by simp [hl]
          have hb2 : ((gs.length : Int) != (hs.length : Int)) = false := by simp [hl]
          rw [hl]
          rw [hl] at hb hb2
          have HL := Lib.hid hl
          clear hl
          go_enter Try.func33, Try.ntmps33
          go_wp2
          have HW0 := Lib.hid (HB.out (.cells #[.int .u64 e1, .int .i64 b1, .bool l1, .slice ax hs.length cx] 38))
          have c3 : (w.alloc (.cells #[.int .u64 e1, .int .i64 b1, .bool l1, .slice ax hs.length cx] 38)).cell? ⟨w.heap.size, 3, none⟩ = some (.slice ax hs.length cx) := World.cell?_alloc_at _ _ _ _ rfl
          generalize w.alloc (.cells #[.int .u64 e1, .int .i64 b1, .bool l1, .slice ax hs.length cx] 38) = W0 at *
          have HX := Lib.hid (gids_below hx HW0.out)
          have HY := Lib.hid (gids_below hy HW0.out)
          clear hx hy
          go_loopg [11] hs.length (fun k v11 wr => ∃ i : Nat, i + k = hs.length ∧ v11 = .int .i64 (i : Int) ∧ gs.take i = hs.take i ∧ ∃ q, wr = W0.drewN q)
          case atStart => exact ⟨0, by omega, rfl, rfl, 0, rfl⟩
          case round =>
            obtain ⟨i, hik, rfl, heq, q, hq⟩ := hrel
            have HQ := Lib.hid hq
            clear hq
            have HE := Lib.hid heq
            clear heq
            have d3 : wr.cell? ⟨w.heap.size, 3, none⟩ = some (.slice ax hs.length cx) := by rw [HQ.out]; exact c3
            by_cases hlt : i < hs.length
            · obtain ⟨b, off, rfl, hc⟩ := HX.out i (by have := HL.out; omega)
              obtain ⟨b', off', rfl, hc'⟩ := HY.out i hlt
              have g : GC wr b (off + i * 2) (gs.getD i default) := by rw [HQ.out]; exact hc
              have g' : GC wr b' (off' + i * 2) (hs.getD i default) := by rw [HQ.out]; exact hc'
              have hs1 : Hid (gs.getD i default = hs.getD i default → gs.take (i + 1) = hs.take (i + 1)) := fun hz => by
                have h2 : i < gs.length := by have := HL.out; omega
                rw [take_snoc gs i default h2, take_snoc hs i default hlt, HE.out, hz]
              have hn : Hid (gs.getD i default ≠ hs.getD i default → decide (gs = hs) = false) := fun hz => by
                have : gs ≠ hs := fun e => hz (by rw [e])
                simp [this]
              clear hc hc'
              generalize gs.getD i default = x at *
              generalize hs.getD i default = y at *
              obtain ⟨x1, x2⟩ := x
              obtain ⟨y1, y2⟩ := y
              obtain ⟨g1, g2⟩ := g
              obtain ⟨g1', g2'⟩ := g'
              simp only at g1 g2 g1' g2'
              have hq := fun w => neq31 w x1 x2 y1 y2
              have hgd := grd31
              by_cases hz : ((x1, x2) : Gid) = (y1, y2)
              · have he : eqG (x1, x2) (y1, y2) = true := by unfold eqG; simpa using hz
                have HS := Lib.hid (hs1.out hz)
                clear hz hn hs1 c3
                go_wp2
                go_quiet (fail)
                go_wp2
                go_roundg (gk - 1)
                case measure => omega
                case rel => exact ⟨i + 1, by omega, by simp, HS.out, q + nq, by rw [HQ.out]; simp [World.drewN, Nat.add_assoc]⟩
              · have he : eqG (x1, x2) (y1, y2) = false := by unfold eqG; simpa using hz
                have HS := Lib.hid (hn.out hz)
                clear hz hn hs1 c3
                go_wp2
                go_quiet (fail)
                go_wp2
                go_ret
                exact retB (by rw [hO.out, HS.out]; simp) (by rw [HQ.out]; exact (HW0.out.trans ((below_drewN' W0 q).mono HW0.out.size)).trans ((below_drewN' (W0.drewN q) nq).mono HW0.out.size))
            · have hs1 : Hid (decide (gs = hs) = true) := by
                have e := HE.out
                rw [List.take_of_length_le (by have := HL.out; omega), List.take_of_length_le (by omega)] at e
                simp [Hid, e]
              clear c3
              go_wp2
              go_ret
              exact retB (by rw [hO.out, hs1.out]; simp) (by rw [HQ.out]; exact HW0.out.trans ((below_drewN' W0 q).mono HW0.out.size))
        · have hs1 : Hid (decide (gs = hs) = false) := by
            have : gs ≠ hs := fun e => hl (by rw [e])
            simp [Hid, this]
          have hb : ((gs.length : Int) == (hs.length : Int)) = false := by simp; omega
          have hb2 : ((gs.length : Int) != (hs.length : Int)) = true := by simp; omega
          go_enter Try.func33, Try.ntmps33
          go_wp2
          go_ret
          exact retB (by rw [hO.out, hs1.out]; simp) (HB.out _)
      · have hl : (l1 != l2) = true := by cases l1 <;> cases l2 <;> simp_all
        have hl' : (l1 == l2) = false := by cases l1 <;> cases l2 <;> simp_all
        have K := Lib.hid h3
        clear h3
        go_enter Try.func33, Try.ntmps33
        go_wp2
        go_ret
        exact retB (by rw [hO.out]; simp [K.out]) (HB.out _)
    · have hb : (b1 != b2) = true := by simpa using h2
      have K := Lib.hid h2
      clear h2
      go_enter Try.func33, Try.ntmps33
      go_wp2
      go_ret
      exact retB (by rw [hO.out]; simp [K.out]) (HB.out _)
  · have hb : (e1 != e2) = true := by simpa using h1
    have K := Lib.hid h1
    clear h1
    go_enter Try.func33, Try.ntmps33
    go_wp2
    go_ret
    exact retB (by rw [hO.out]; simp [K.out]) (HB.out _)
end Go.Proofs.Ythfchmdfoaiibaa
