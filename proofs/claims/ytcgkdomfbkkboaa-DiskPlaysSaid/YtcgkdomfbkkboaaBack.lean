/- The iterator over a row, from behind. -/
import Derived.Test.YtcgkdomfbkkboaaRangeMid
import Derived.Test.YtcgkdomfbkkboaaWritten
import Derived.Sort.BigQuietIn
import Derived.Sort.LoopGhostIn
namespace Go.Proofs.Ytcgkdomfbkkboaa
open Go.RowKit Go.Shelf
attribute [local go_sem] Oper.semAt_some

def encX (x : Int × Bf) : Array Value := #[.int .i64 x.1, .agg #[.int .i64 x.2.1, .string x.2.2.1, .bool x.2.2.2]]
/-- the elements, from behind, with their numbers. -/
def backs (us : List Bf) : Nat → List (Int × Bf)
  | 0 => []
  | k + 1 => backs us k ++ [((us.length : Int) - 1 - k, us.getD (us.length - 1 - k) default)]
theorem backs_length (us : List Bf) (k : Nat) : (backs us k).length = k := by
  induction k with
  | zero => rfl
  | succ k ih => simp [backs, ih]
set_option maxHeartbeats 1000000 in
set_option maxRecDepth 100000 in
theorem back1_in (n : Nat) (hn : 1 ≤ n) (l Bx : Nat) (a : Option Addr) (cap : Nat) (us : List Bf) (w : World) (S0 : Nat → Prop) (J : List (Int × Bf) → World → Prop) (Ok : Int × Bf → Prop)
    (hBx : ∀ W, Mod S0 w W → W.cell? ⟨Bx, 0, none⟩ = some (.slice a us.length cap)) (hel : ∀ W, Mod S0 w W → Lst encB 3 W a us) (hlen : us.length ≤ 1000000)
    (hok : ∀ k, k < us.length → Ok ((us.length : Int) - 1 - k, us.getD (us.length - 1 - k) default))
    (hY : ∀ pre x W1, J pre W1 → pre.length < us.length → Ok x → YieldAt Fence.wide (n - 1) Try.prog l (encX x) W1 fun e W' => e = .returned (.bool true) ∧ J (pre ++ [x]) W' ∧ Mod S0 W1 W')
    (W : World) (hW : Mod S0 w W) (h0 : J [] W) :
    CallsIn Fence.wide n Try.prog 50 #[.func (.yield l) #[] #[], .pointer (some ⟨Bx, 0, none⟩)] W fun e W' => (∃ v, e = .returned v) ∧ ∃ xs, (xs = backs us us.length ∧ Mod S0 w W') ∧ J xs W' := by
  refine callsIn_of_wp Try.func50 rfl trivial ?_ rfl
  simp only [Try.ntmps50, List.size_toArray, List.length_cons, List.length_nil, Nat.reduceAdd, Nat.reduceSub, Array.replicate_succ, Array.replicate_zero, List.push_toArray, List.append_toArray, List.nil_append, List.cons_append]
  have hb0 := hBx W hW
  generalize hum : us.length = m at *
  have HUM := Lib.hid hum
  clear hum
  gi_wp2
  gi_loopw [3] (fun v3 wr => ∃ k : Nat, k ≤ m ∧ v3 = .int .i64 ((m : Int) - 1 - k) ∧ Mod S0 w wr ∧ J (backs us k) wr)
    (fun v _ => (intOf v + 1).toNat)
  case atStart => exact ⟨0, Nat.zero_le _, by simp, hW, h0⟩
  case round =>
    obtain ⟨k, hk, rfl, hM, hJ⟩ := hrel
    have HM := Lib.hid hM
    have HJ := Lib.hid hJ
    have hbx := hBx wr hM
    by_cases hlt : k < m
    · obtain ⟨i, hi⟩ : ∃ i, i = m - 1 - k := ⟨_, rfl⟩
      obtain ⟨b, off, rfl, hc⟩ := hel wr hM i (by have := HUM.out; omega)
      obtain ⟨c0, c1, c2⟩ := bf_cells hc
      have hstep := Lib.hid (show backs us (k + 1) = backs us k ++ [((i : Int), us.getD i default)] by
        have := HUM.out
        rw [backs, this, ← hi, show (m : Int) - 1 - k = (i : Int) by omega])
      have hoki := hok k hlt
      rw [← hi, show (m : Int) - 1 - k = (i : Int) by omega] at hoki
      obtain ⟨fn, tmps, assign, body, hy, hR⟩ := hY _ ((i : Int), us.getD i default) _ hJ (by rw [backs_length]; exact hlt) hoki
      have HR := Lib.hid hR
      have HI := Lib.hid hi
      have him : (i : Int) < (m : Int) := by omega
      have hi0 : (0 : Int) ≤ (i : Int) := by omega
      have hlt2 := Lib.hid hlt
      have hk1 := Lib.hid (show ((i : Int) - 1) = (m : Int) - 1 - ((k + 1 : Nat) : Int) by omega)
      rw [show (m : Int) - 1 - k = (i : Int) by omega]
      generalize us.getD i default = x at *
      obtain ⟨x0, x1, x2⟩ := x
      simp only at c0 c1 c2
      simp only [encX] at hy
      clear hc hoki hR hJ hM hW h0 hb0 hBx hel hok hi hlt hk HJ
      gi_wp2
      refine HR.out.mono ?_
      rintro e W5 ⟨rfl, hJ5, hk5⟩
      have HJ5 := Lib.hid hJ5
      have HK5 := Lib.hid hk5
      clear hJ5 hk5 HR hy
      gi_wp2
      go_roundw
      case rel => exact ⟨k + 1, hlt2.out, by rw [hk1.out], HM.out.trans HK5.out, by rw [hstep.out]; exact HJ5.out⟩
      case measure => simp [intOf]
    · obtain rfl : k = m := by omega
      have hneg : (k : Int) - 1 - (k : Int) = -1 := by omega
      rw [hneg]
      clear hneg hM hJ hbx hBx hel hok hY hW h0 hb0 hlt hk
      gi_wp2
      go_end0
      exact ⟨⟨_, rfl⟩, _, ⟨rfl, HM.out⟩, HJ.out⟩
end Go.Proofs.Ytcgkdomfbkkboaa
