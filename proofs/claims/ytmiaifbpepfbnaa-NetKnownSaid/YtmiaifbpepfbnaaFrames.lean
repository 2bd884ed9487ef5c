/- Frames of the law's own: thirty at most, each of 9000 bytes at most. -/
import Derived.Test.YtmiaifbpepfbnaaMany
namespace Go.Proofs.Ytmiaifbpepfbnaa
open Go.RowKit Go.Joins Go.ChangeMaps

def cutF (f : Fr) : Fr := (f.1, f.2.1, if f.2.2.size ≤ 9000 then f.2.2 else f.2.2.extract 0 9000)
def frs (l : List Fr) : List Fr := (l.take 30).map cutF
theorem sizeA (w : World) (o : Obj) : w.heap.size + 1 = (w.alloc o).heap.size := by simp
theorem frs_len (l : List Fr) : (frs l).length ≤ 30 := by simp [frs]; omega
def OwnFP (xs : List Fr) (w : World) (e : Ending) (w' : World) : Prop := ∃ v, e = .returned v ∧ OwnF w' w.heap.size v xs ∧ Below w.heap.size w w'
set_option maxHeartbeats 2000000 in
set_option maxRecDepth 100000 in
theorem frames_any (a : Option Addr) (c : Nat) (l : List Fr) (w : World) (hl : Lst encF 3 w a l) : Calls Try.prog 15 #[.slice a l.length c] w (OwnFP (frs l) w) := by
  have hL := Lib.hid hl
  generalize hn : l.length = n at *
  have hN := Lib.hid hn
  clear hl hn
  go_enter Try.func15, Try.ntmps15
  go_wp2
  go_loopg [3, 4, 5] n (fun gk v3 v4 v5 wr => ∃ i : Nat, i + gk = n ∧ i ≤ 30 ∧ v4 = .int .i64 (i : Int) ∧ OwnF wr w.heap.size v3 ((l.take i).map cutF) ∧ Below w.heap.size w wr)
  case atStart => exact ⟨0, by omega, by omega, rfl, by simpa using ownL_nil _ _, Below.refl _ _⟩
  case round =>
    obtain ⟨i, hik, hi30, rfl, hown, hB⟩ := hrel
    have HO := Lib.hid hown
    have HB := Lib.hid hB
    have H30 := Lib.hid hi30
    clear hown hB hi30
    by_cases hlt : i < n
    · have hli : (i : Int) < (n : Int) := by omega
      by_cases h3 : i < 30
      · have h30 : (i : Int) < 30 := by omega
        have hsn := Lib.hid (show (l.take (i + 1)).map cutF = (l.take i).map cutF ++ [cutF (l.getD i default)] by rw [take_snoc l i default (by have := hN.out; omega), List.map_append]; rfl)
        obtain ⟨b, off, hab, hc⟩ := hL.out i (by have := hN.out; omega)
        subst hab
        obtain ⟨g0', g1', g2'⟩ := fr_cells hc
        have g0 := keepc' g0' HB.out
        have g1 := keepc' g1' HB.out
        have g2 := keepc' g2' HB.out
        generalize l.getD i default = f at *
        obtain ⟨f0, f1, f2⟩ := f
        have hlenO := Lib.hid (show ((l.take i).map cutF).length ≤ 30 by simp; have := H30.out; omega)
        clear g0' g1' g2' hc h3
        by_cases h9 : (f2.size : Int) ≤ 9000
        · have h9b : ¬ (9000 : Int) < (f2.size : Int) := by omega
          have hcf := Lib.hid (show cutF (f0, f1, f2) = (f0, f1, f2) by simp [cutF]; omega)
          go_wp2_with (at_builtin; refine wpList_app (v := u3) (base := w.heap.size) EF TF rfl _ _ rfl rfl (HO.out.below (grew_trans (bel1 _ (.cells #[.int .i64 f0, .int .i64 f1, .string f2] 31)) (bel1 _ _))) (some ⟨_, 0, none⟩) 1 1 [(f0, f1, f2)] rfl rfl (fr_own (f := (f0, f1, f2)) (sizeA _ _)) (fun e => by cases e) (Nat.le_trans (Nat.mul_le_mul_right 32 (Nat.add_le_add_right hlenO.out 1)) (by omega)) (Nat.le_trans (Nat.add_le_add_right hlenO.out 1) (by unfold maxLen; omega)) (Nat.le_trans HB.out.size (Nat.le_trans (bel1 _ _).size (bel1 _ _).size)) ?_; intro v' w' ho hgr hat)
          go_roundg (gk - 1)
          case measure => omega
          case rel => exact ⟨i + 1, by omega, by omega, by simp, by rw [hsn.out, hcf.out]; exact ho, (grew_trans HB.out (grew_trans (bel1 _ (.cells #[.int .i64 f0, .int .i64 f1, .string f2] 31)) (bel1 _ _))).grown hgr (Nat.le_trans HB.out.size (Nat.le_trans (bel1 _ _).size (bel1 _ _).size)) (fun j hj => (World.ownsRow.lt HO.out j hj).1)⟩
        · have h9b : (9000 : Int) < (f2.size : Int) := by omega
          have h9c : (9000 : Int) ≤ (f2.size : Int) := by omega
          have h9n : 9000 ≤ f2.size := by omega
          have hcf := Lib.hid (show cutF (f0, f1, f2) = (f0, f1, f2.extract 0 9000) by simp [cutF]; omega)
          clear h9
          obtain ⟨g2, hg2⟩ : ∃ g2, f2.extract 0 9000 = g2 := ⟨_, rfl⟩
          rw [hg2] at hcf
          go_wp2_with (at_builtin; refine wpList_app (v := u3) (base := w.heap.size) EF TF rfl _ _ rfl rfl (HO.out.below (grew_trans (bel1 _ (.cells #[.int .i64 f0, .int .i64 f1, .string g2] 31)) (bel1 _ _))) (some ⟨_, 0, none⟩) 1 1 [(f0, f1, g2)] rfl rfl (fr_own (f := (f0, f1, g2)) (sizeA _ _)) (fun e => by cases e) (Nat.le_trans (Nat.mul_le_mul_right 32 (Nat.add_le_add_right hlenO.out 1)) (by omega)) (Nat.le_trans (Nat.add_le_add_right hlenO.out 1) (by unfold maxLen; omega)) (Nat.le_trans HB.out.size (Nat.le_trans (bel1 _ _).size (bel1 _ _).size)) ?_; intro v' w' ho hgr hat)
          go_roundg (gk - 1)
          case measure => omega
          case rel => exact ⟨i + 1, by omega, by omega, by simp, by rw [hsn.out, hcf.out]; exact ho, (grew_trans HB.out (grew_trans (bel1 _ (.cells #[.int .i64 f0, .int .i64 f1, .string g2] 31)) (bel1 _ _))).grown hgr (Nat.le_trans HB.out.size (Nat.le_trans (bel1 _ _).size (bel1 _ _).size)) (fun j hj => (World.ownsRow.lt HO.out j hj).1)⟩
      · have h30 : (30 : Int) ≤ (i : Int) := by omega
        have hii : i = 30 := by have := H30.out; omega
        have HII := Lib.hid hii
        clear hii h3
        go_wp2
        go_ret
        refine ⟨_, rfl, ?_, HB.out⟩
        have := HO.out
        rwa [HII.out] at this
    · have hge : (n : Int) ≤ (i : Int) := by omega
      have hii : i = n := by omega
      have HII := Lib.hid hii
      clear hii hlt
      go_wp2
      go_ret
      refine ⟨_, rfl, ?_, HB.out⟩
      have := HO.out
      have h30 := H30.out
      unfold frs
      rw [List.take_of_length_le (by have := hN.out; have := HII.out; omega)] at this ⊢
      exact this
end Go.Proofs.Ytmiaifbpepfbnaa
