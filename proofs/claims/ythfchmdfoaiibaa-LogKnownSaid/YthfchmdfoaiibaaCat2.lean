/- Concat of two lists of entries. -/
import Derived.Test.YthfchmdfoaiibaaCat
namespace Go.Proofs.Ythfchmdfoaiibaa
open Go.RowKit Go.Joins

set_option maxRecDepth 100000 in
set_option maxHeartbeats 1000000 in
theorem concat_any (b o : Nat) (a1 a2 : Option Addr) (c1 c2 : Nat) (xs ys : List Ent) (w : World) (hx : Sl w a1 c1 xs) (hy : Sl w a2 c2 ys)
    (k1 : w.cell? ⟨b, o, none⟩ = some (.slice a1 xs.length c1)) (k2 : w.cell? ⟨b, o + 1, none⟩ = some (.slice a2 ys.length c2)) (hb : (xs.length + ys.length) * 32 ≤ 140737488355328) :
    Calls Try.prog 37 #[.slice (some ⟨b, o, none⟩) 2 2] w (OwnPost (xs ++ ys) w) := by
  have HX := Lib.hid hx
  have HY := Lib.hid hy
  have K1 := Lib.hid k1
  have K2 := Lib.hid k2
  clear hx hy
  go_enter Try.func37, Try.ntmps37
  go_wp2
  go_loopg [3, 5, 11] 2 (fun k v3 v5 v11 wr => ((k = 2 ∧ v3 = .int .i64 0 ∧ v11 = .int .i64 0) ∨ (k = 1 ∧ v3 = .int .i64 (xs.length : Int) ∧ v11 = .int .i64 1) ∨ (k = 0 ∧ v3 = .int .i64 ((xs.length : Int) + (ys.length : Int)) ∧ v11 = .int .i64 2)) ∧ wr = w)
  case atStart => exact ⟨.inl ⟨rfl, rfl, rfl⟩, rfl⟩
  case round =>
    obtain ⟨hr, rfl⟩ := hrel
    rcases hr with ⟨rfl, rfl, rfl⟩ | ⟨rfl, rfl, rfl⟩ | ⟨rfl, rfl, rfl⟩
    · go_wp2
      go_roundg 1
      case measure => omega
      case rel => exact ⟨.inr (.inl ⟨rfl, by simp, by simp⟩), rfl⟩
    · go_wp2
      go_roundg 0
      case measure => omega
      case rel => exact ⟨.inr (.inr ⟨rfl, by simp, by simp⟩), rfl⟩
    · have hg := Lib.hid (grow_any (xs.length + ys.length) wr hb)
      rw [Int.natCast_add] at hg
      go_wp2_with (go_at_call 47; refine hg.out.mono ?_; rintro e w1 ⟨v, rfl, hown, hb1⟩)
      have HO := Lib.hid hown
      have HB := Lib.hid hb1
      clear hown hb1
      obtain ⟨w0, rfl⟩ : ∃ w0 : World, w0 = wr := ⟨_, rfl⟩
      go_loopg [6, 8, 27] 2 (fun k v6 v8 v27 wr => ((k = 2 ∧ OwnE wr w0.heap.size v6 [] ∧ v27 = .int .i64 0) ∨ (k = 1 ∧ OwnE wr w0.heap.size v6 xs ∧ v27 = .int .i64 1) ∨ (k = 0 ∧ OwnE wr w0.heap.size v6 (xs ++ ys) ∧ v27 = .int .i64 2)) ∧ Below w0.heap.size w0 wr)
      case atStart => exact ⟨.inl ⟨rfl, HO.out, rfl⟩, HB.out⟩
      case round =>
        obtain ⟨hr, hbr⟩ := hrel
        have HBR := Lib.hid hbr
        have q1 := (hbr.cell (p := ⟨b, o, none⟩) (World.block_lt_of_cell? _ _ K1.out)).trans K1.out
        have q2 := (hbr.cell (p := ⟨b, o + 1, none⟩) (World.block_lt_of_cell? _ _ K2.out)).trans K2.out
        clear hbr k1 k2
        rcases hr with ⟨rfl, hown, rfl⟩ | ⟨rfl, hown, rfl⟩ | ⟨rfl, hown, rfl⟩
        · go_wp2_with (at_builtin; refine app_ents rfl _ _ rfl w0.heap.size _ [] rfl hown a1 xs.length c1 xs rfl rfl (HX.out.below HBR.out).ents HX.out.nil0 (by simp; omega) HBR.out.size ?_; intro v' w' hown' hgrow)
          go_roundg 1
          case measure => omega
          case rel => exact ⟨.inr (.inl ⟨rfl, by simpa using hown', by simp⟩), HBR.out.grown hgrow (HBR.out.size) (fun j hj => (World.ownsRow.lt hown j hj).1)⟩
        · go_wp2_with (at_builtin; refine app_ents rfl _ _ rfl w0.heap.size _ xs rfl hown a2 ys.length c2 ys rfl rfl (HY.out.below HBR.out).ents HY.out.nil0 hb HBR.out.size ?_; intro v' w' hown' hgrow)
          go_roundg 0
          case measure => omega
          case rel => exact ⟨.inr (.inr ⟨rfl, hown', by simp⟩), HBR.out.grown hgrow (HBR.out.size) (fun j hj => (World.ownsRow.lt hown j hj).1)⟩
        · go_wp2
          go_ret
          exact ⟨_, rfl, hown, HBR.out⟩
end Go.Proofs.Ythfchmdfoaiibaa
