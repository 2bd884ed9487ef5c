/- Two rows of ints; the chapter's examples in plain words. -/
import Derived.Test.YtcleaamjfjnkkaaGreatCo31
namespace Go.Proofs.YtcleaamjfjnkkaaGreat
open Go.RowKit Go.Joins
set_option maxRecDepth 100000 in
theorem ints_any (xs ys : List Int) (ax ay : Option Addr) (cx cy : Nat) (w : World) (hx : Lst encI 1 w ax xs) (hy : Lst encI 1 w ay ys) (hlx : xs.length ≤ 1000) :
    Calls Tryz.prog 43 #[.slice ax xs.length cx, .slice ay ys.length cy] w (QuietB (decide (xs = ys)) w) := by
  by_cases hl : xs.length = ys.length
  · have hb : ((xs.length : Int) == (ys.length : Int)) = true := by simp [hl]
    have hb2 : ((xs.length : Int) != (ys.length : Int)) = false := by simp [hl]
    rw [← hl]
    rw [← hl] at hb hb2
    have HL := Lib.hid hl
    have HX := Lib.hid (row_of_lst hx)
    have HY := Lib.hid (row_of_lst hy)
    clear hl hx hy
    go_enter Tryz.func43, Tryz.ntmps43
    go_wp2
    go_loopg [5] xs.length (fun k v5 wr => ∃ i : Nat, i + k = xs.length ∧ v5 = .int .i64 (i : Int) ∧ xs.take i = ys.take i ∧ ∃ q, wr = w.drewN q)
    case atStart => exact ⟨0, by omega, rfl, rfl, 0, rfl⟩
    case round =>
      obtain ⟨i, hik, rfl, heq, q, hq⟩ := hrel
      have HQ := Lib.hid hq
      clear hq
      have HE := Lib.hid heq
      clear heq
      by_cases hlt : i < xs.length
      · obtain ⟨b, off, rfl, hc⟩ := HX.out i hlt
        obtain ⟨b', off', rfl, hc'⟩ := HY.out i (by have := HL.out; omega)
        have g : wr.cell? ⟨b, off + i, none⟩ = some (.int .i64 (xs.getD i 0)) := by rw [HQ.out]; exact hc
        have g' : wr.cell? ⟨b', off' + i, none⟩ = some (.int .i64 (ys.getD i 0)) := by rw [HQ.out]; exact hc'
        have hs : Hid (xs.getD i 0 = ys.getD i 0 → xs.take (i + 1) = ys.take (i + 1)) := fun hz => by
          have h2 : i < ys.length := by have := HL.out; omega
          rw [take_snoc xs i 0 hlt, take_snoc ys i 0 h2, HE.out, hz]
        have hn : Hid (xs.getD i 0 ≠ ys.getD i 0 → false = decide (xs = ys)) := fun hz => by
          have : xs ≠ ys := fun e => hz (by rw [e])
          simp [this]
        clear hc hc'
        generalize xs.getD i 0 = x at *
        generalize ys.getD i 0 = y at *
        by_cases hz : x = y
        · subst hz
          have HS := Lib.hid (hs.out rfl)
          clear hn hs
          go_wp2
          go_quiet (fail)
          go_wp2
          go_roundg (gk - 1)
          case measure => omega
          case rel => exact ⟨i + 1, by omega, by simp, HS.out, q + nq, by rw [HQ.out]; simp [World.drewN, Nat.add_assoc]⟩
        · have hxy : (x != y) = true := by simp [hz]
          have HS := Lib.hid (hn.out hz)
          clear hz hn hs
          go_wp2
          go_quiet (fail)
          go_wp2
          go_ret
          exact quietB HS.out ⟨q + nq, by rw [HQ.out]; simp [World.drewN, Nat.add_assoc]⟩
      · have hs : Hid (true = decide (xs = ys)) := by
          have e := HE.out
          rw [List.take_of_length_le (by omega), List.take_of_length_le (by have := HL.out; omega)] at e
          simp [Hid, e]
        go_wp2
        go_ret
        exact quietB hs.out ⟨q, HQ.out⟩
  · have hs : Hid (false = decide (xs = ys)) := by
      have : xs ≠ ys := fun e => hl (by rw [e])
      simp [Hid, this]
    have hb : ((xs.length : Int) == (ys.length : Int)) = false := by simp; omega
    have hb2 : ((xs.length : Int) != (ys.length : Int)) = true := by simp; omega
    go_enter Tryz.func43, Tryz.ntmps43
    go_wp2
    go_ret
    exact quietB hs.out ⟨0, rfl⟩
def kq1 : Co := wo0.tick 30 5
def kq2 : Co := kq1.handle 1 woM1 31 0
def kq3 : Co := kq2.handle 2 woM2 33 0
def kmA : Mg := { mg0 1 with term := 5, prev := 9, pterm := 1 }
def kq4 : Co := kq3.handle 1 kmA 50 0
def kq5 : Co := kq4.handle 1 kmA 51 0
def kmD : Mg := { mg0 3 with term := 6, prev := 3, pterm := 6, stamp := 9 }
def kq6 : Co := kq5.handle 2 kmD 60 0
def kmE : Mg := { mg0 3 with term := 6, prev := 1, pterm := 1, ents := [(6, 1, 0, 0)], commit := 5, stamp := 10 }
def kq7 : Co := kq6.handle 2 kmE 61 0
def kmF : Mg := { mg0 3 with term := 6, ents := [(3, 1, 0, 0)] }
def kq8 : Co := kq7.handle 2 kmF 62 0
def kmG : Mg := { mg0 3 with term := 4, stamp := 7 }
def kq9 : Co := kq8.handle 1 kmG 63 0
def kmH : Mg := { mg0 1 with term := 9 }
def kq10 : Co := kq9.handle 1 kmH 84 0
def kq11 : Co := kq10.handle 1 kmH 86 0
def kmX : Mg := { mg0 1 with term := 99 }
def kmP : Mg := { mg0 5 with term := 99 }
def kq12 : Co := kq11.handle 0 kmX 99 0
def kq13 : Co := kq12.handle 3 kmX 99 0
def kq14 : Co := kq13.handle 1 kmP 99 0
def kFull : List Ent := List.replicate 300 (1, 1, 0, 0)
def kx0 : Co := newC 2 1 (-1) kFull 0 3
def kx1 : Co := kx0.tick 32 0
def kx2 : Co := kx1.tick 33 0
def kmV : Mg := { mg0 2 with term := 2, yes := true }
def kx3 : Co := kx2.handle 0 kmV 34 0
theorem kn_a : kq1.role = 1 ∧ kq1.voted = 0 ∧ kq1.dest = [1, 2] ∧ kq1.propose (0, 2, 0, 0) = (13, kq1) := ⟨by decide +kernel, by decide +kernel, by decide +kernel, rfl⟩
theorem kn_b : kq4.out.length = 1 ∧ (kq4.out.getD 0 default).yes = false ∧ (kq4.out.getD 0 default).term = 1 ∧ kq4.role = 2 ∧ kq5.out.length = 1 ∧ (kq5.out.getD 0 default).yes = true ∧ (kq5.out.getD 0 default).term = 5 ∧ kq5.role = 0 ∧ kq5.voted = 1 ∧ kq5.head = -1 ∧ kq5.commit = 1 := by decide +kernel
theorem kn_c : kq6.out.length = 1 ∧ (kq6.out.getD 0 default).yes = false ∧ (kq6.out.getD 0 default).mat = 1 ∧ (kq6.out.getD 0 default).stamp = 9 ∧ kq7.out.length = 1 ∧ (kq7.out.getD 0 default).yes = true ∧ (kq7.out.getD 0 default).mat = 2 ∧ (kq7.out.getD 0 default).stamp = 10 ∧ kq11.commit = 2 ∧ kq8.out.length = 0 ∧ kq9.out.length = 1 ∧ (kq9.out.getD 0 default).kind = 2 ∧ (kq9.out.getD 0 default).yes = false ∧ (kq9.out.getD 0 default).term = 6 ∧ (kq9.out.getD 0 default).stamp = 0 ∧ kq10.out.length = 1 ∧ (kq10.out.getD 0 default).term = 6 ∧ kq11.out.length = 1 ∧ (kq11.out.getD 0 default).yes = false ∧ (kq11.out.getD 0 default).term = 9 := by decide +kernel
theorem kn_d : kq12.out.length = 0 ∧ kq13.out.length = 0 ∧ kq14.out.length = 0 ∧ kq14.term = 9 := by decide +kernel
theorem kn_e : newOk 2 1 (-1) kFull = true ∧ newOk 3 0 (-1) [] = false ∧ newOk (-1) 0 (-1) [] = false ∧ newOk 0 1 (-1) [(2, 1, 0, 0)] = false ∧ newOk 0 0 3 [] = false ∧ kx1.out.length = 0 ∧ kx2.out.length = 2 ∧ kx3.role = 2 ∧ kx3.log.length = 300 ∧ (kx3.propose (0, 2, 0, 0)).1 = 3 ∧ (kx3.propose (0, 9, 0, 0)).1 = 2 := by decide +kernel
end Go.Proofs.YtcleaamjfjnkkaaGreat
