/- Frames: are two lists of frames alike? -/
import Derived.Test.YtkojjnkohnokoaaLeaf
namespace Go.Proofs.Ytkojjnkohnokoaa
open Go.RowKit Go.Joins

def encF (f : Fr) : List Value := [.int .i64 0, .int .i64 (f.1 : Int), .string f.2]
theorem EF : Enc encF 3 := ⟨fun _ => rfl, fun x u hu => by simp [encF] at hu; rcases hu with rfl | rfl | rfl <;> rfl, by decide⟩
theorem TF : Tab Try.prog 35 46 3 32 := ⟨Try.underlying35, _, _, rfl, rfl, rfl, rfl, rfl⟩
instance : Inhabited Fr := ⟨(0, ⟨#[]⟩)⟩
theorem fr_cells {w : World} {b o : Nat} {f : Fr} (h : CellsAt w b o (encF f)) : w.cell? ⟨b, o, none⟩ = some (.int .i64 0) ∧ w.cell? ⟨b, o + 1, none⟩ = some (.int .i64 (f.1 : Int)) ∧ w.cell? ⟨b, o + 2, none⟩ = some (.string f.2) :=
  ⟨h 0 _ rfl, h 1 _ rfl, h 2 _ rfl⟩
set_option maxHeartbeats 1000000 in
set_option maxRecDepth 100000 in
/-- two equal lists are found so. -/
theorem frames_any (a b : Option Addr) (ca cb : Nat) (l : List Fr) (w : World) (ha : Lst encF 3 w a l) (hb : Lst encF 3 w b l) (hl : l.length ≤ 1000) :
    Calls Try.prog 8 #[.slice a l.length ca, .slice b l.length cb] w (QuietB true w) := by
  have HA := Lib.hid ha
  have HB := Lib.hid hb
  generalize hn : l.length = n at *
  have hN := Lib.hid hn
  have hn3 : (n : Int) ≤ 1000 := by omega
  clear ha hb hn
  go_enter Try.func8, Try.ntmps8
  go_wp2
  go_loopg [5] n (fun gk v5 wr => ∃ i : Nat, (∃ m, wr = w.drewN m) ∧ i + gk = n ∧ v5 = .int .i64 (i : Int))
  case atStart => exact ⟨0, ⟨0, rfl⟩, by omega, rfl⟩
  case round =>
    obtain ⟨i, ⟨m, hm⟩, hik, rfl⟩ := hrel
    have HM := Lib.hid hm
    have hd : ∀ p, wr.cell? p = w.cell? p := fun p => by rw [hm]; rfl
    clear hm
    by_cases hlt : i < n
    · have hli : (i : Int) < (n : Int) := by omega
      obtain ⟨ba, oa, rfl, ka⟩ := HA.out i (by have := hN.out; omega)
      obtain ⟨bb, ob, rfl, kb⟩ := HB.out i (by have := hN.out; omega)
      obtain ⟨a0, a1, a2⟩ := fr_cells ka
      obtain ⟨b0, b1, b2⟩ := fr_cells kb
      rw [← hd] at a0 a1 a2 b0 b1 b2
      clear hd ka kb
      generalize l.getD i default = f at *
      obtain ⟨f1, f2⟩ := f
      simp only at a1 a2 b1 b2
      go_wp2
      go_quiet (fail)
      go_wp2
      go_roundg (gk - 1)
      case measure => omega
      case rel => exact ⟨i + 1, ⟨m + nq, by rw [HM.out, World.drewN_drewN]⟩, by omega, by simp⟩
    · have hge : (n : Int) ≤ (i : Int) := by omega
      go_wp2
      go_ret
      exact quietB rfl ⟨m, HM.out⟩
end Go.Proofs.Ytkojjnkohnokoaa
