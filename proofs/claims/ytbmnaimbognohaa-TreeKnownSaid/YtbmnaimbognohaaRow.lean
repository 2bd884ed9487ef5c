/- The walk of the reference's row; of tree.but. -/
import Derived.Test.YtbmnaimbognohaaLeaf
namespace Go.Proofs.Ytbmnaimbognohaa
open Go.RowKit Go.Joins

theorem Try.info3 : (Try.prog.info? 3).map (fun i => (i.zero, i.size, i.bytes)) = some (some (.int .i64 0), 1, 8) := by kernel_rfl

/-- A call that returns a new list of integers. -/
def RetRow (xs : List Int) (w : World) (e : Ending) (w' : World) : Prop := ∃ v, e = .returned v ∧ w'.ownsRow w.heap.size 3 1 v xs.length (xs.map (Value.int .i64)) ∧ Below w.heap.size w w'

def lowR (me : Nat) (i : Nat) : List Int := (([0, 1, 2] : List Int).take i).filter fun n => n != (me : Int)
def highR (me : Nat) (c : Nat) : List Int := ((List.range me).reverse.take c).map fun n : Nat => (n : Int)

theorem lowR_end (me : Nat) (h : me < 3) : lowR me 3 = rowL me := by
  match me, h with
  | 0, _ => decide
  | 1, _ => decide
  | 2, _ => decide
theorem highR_end (me : Nat) (h : 3 ≤ me) (h6 : me < 6) : highR me me = rowL me := by
  match me, h, h6 with
  | 3, _, _ => decide
  | 4, _, _ => decide
  | 5, _, _ => decide
theorem lowR_step (me i : Nat) (h : i < 3) : lowR me (i + 1) = lowR me i ++ (if i = me then [] else [(i : Int)]) := by
  have e : ([0, 1, 2] : List Int).take (i + 1) = ([0, 1, 2] : List Int).take i ++ [(i : Int)] := by
    match i, h with
    | 0, _ => rfl
    | 1, _ => rfl
    | 2, _ => rfl
  unfold lowR
  rw [e, List.filter_append]
  congr 1
  by_cases hi : i = me
  · simp [hi]
  · rw [if_neg hi]
    have : ((i : Int) != (me : Int)) = true := by simp; omega
    simp [this]
theorem lowR_len (me i : Nat) (h : i ≤ 3) : (lowR me i).length ≤ 3 := Nat.le_trans (List.length_filter_le _ _) (by simp; omega)
theorem highR_step (me c : Nat) (h : c < me) : highR me (c + 1) = highR me c ++ [((me - 1 - c : Nat) : Int)] := by
  unfold highR
  rw [List.take_succ_eq_append_getElem (by simpa using h), List.map_append]
  congr 1
  simp [List.getElem_reverse]
theorem highR_len (me c : Nat) (h : c ≤ me) : (highR me c).length = c := by simp [highR, h]

set_option maxHeartbeats 1000000 in
theorem row_any (me : Nat) (hm : me < 6) (w : World) : Calls Try.prog 17 #[.int .i64 me] w (RetRow (rowL me) w) := by
  obtain ⟨i0, hi, hz0, hz1, hz2⟩ := info_parts Try.info3
  by_cases h3 : me < 3
  · have h3' : (me : Int) < 3 := by omega
    have Hend := Lib.hid (lowR_end me h3)
    go_enter Try.func17, Try.ntmps17
    go_wp2
    go_loopw [3, 4] (fun v i wr => ∃ c : Nat, c ≤ 3 ∧ i = .int .i64 c ∧ wr.ownsRow w.heap.size 3 1 v (lowR me c).length ((lowR me c).map (Value.int .i64)) ∧ Below w.heap.size w wr) (fun _ i _ => 3 - (intOf i).toNat)
    case atStart => exact ⟨0, by omega, rfl, World.ownsRow_nil _ _ _ _, Below.refl _ _⟩
    case round =>
      obtain ⟨c, hc, rfl, hown, hb⟩ := hrel
      by_cases hlt : c < 3
      · have hs := lowR_step me c hlt
        have hl := lowR_len me c hc
        by_cases hcm : c = me
        · rw [if_pos hcm, List.append_nil] at hs
          have Hs := Lib.hid hs; clear hs
          have hbn : ((c : Int) != (me : Int)) = false := by simp [hcm]
          clear hcm
          go_wp2
          go_roundw
          case rel => exact ⟨c + 1, by omega, by go_num, by rw [Hs.out]; exact hown, hb⟩
          case measure => simp [intOf]; omega
        · rw [if_neg hcm] at hs
          have Hs := Lib.hid hs; clear hs
          have hbn : ((c : Int) != (me : Int)) = true := by simp; omega
          clear hcm
          go_wp2_with (at_builtin; refine wpList_append_own _ rfl _ _ 35 rfl w.heap.size 3 i0 (.int .i64 0) 1 8 Try.underlying35 hi hz0 hz1 hz2 rfl (by decide) _ _ _ rfl (hown.alloc _) ⟨wr.heap.size, 0, none⟩ 1 1 [.int .i64 c] rfl rfl ?c1 ?c2 ?c3 ?c4 ?c5 ?_)
          case c1 => exact cell_one_new _ _ _
          case c2 => intro u hu; simp at hu; subst hu; rfl
          case c3 => unfold maxLen; omega
          case c4 => omega
          case c5 => have := hb.size; simp; omega
          intro v' w1 hown' hgrow _
          have hb' : Below w.heap.size w w1 := (hb.alloc hb.size _).grown hgrow (by have := hb.size; simp; omega) (fun j hj => (hown.lt j hj).1)
          have hown2 : w1.ownsRow w.heap.size 3 1 v' (lowR me (c + 1)).length ((lowR me (c + 1)).map (Value.int .i64)) := by rw [Hs.out]; simpa using hown'
          clear hown' hgrow hown hb
          go_wp2
          go_roundw
          case rel => exact ⟨c + 1, by omega, by go_num, hown2, hb'⟩
          case measure => simp [intOf]; omega
      · obtain rfl : c = 3 := by omega
        go_wp2
        go_ret
        exact ⟨_, rfl, by rw [← Hend.out]; exact hown, hb⟩
  · have h3' : ¬ ((me : Int) < 3) := by omega
    have Hend := Lib.hid (highR_end me (by omega) hm)
    go_enter Try.func17, Try.ntmps17
    go_wp2
    go_loopg [3, 5] me (fun r v j wr => r ≤ me ∧ j = .int .i64 ((r : Int) - 1) ∧ wr.ownsRow w.heap.size 3 1 v (me - r) ((highR me (me - r)).map (Value.int .i64)) ∧ Below w.heap.size w wr)
    case atStart => exact ⟨Nat.le_refl _, rfl, by rw [Nat.sub_self]; exact World.ownsRow_nil _ _ _ _, Below.refl _ _⟩
    case round =>
      obtain ⟨hr1, rfl, hown, hb⟩ := hrel
      cases gk with
      | zero =>
        rw [show (((0 : Nat) : Int) - 1) = (-1 : Int) by omega]
        rw [Nat.sub_zero] at hown
        go_wp2
        go_ret
        exact ⟨_, rfl, by rw [← Hend.out, highR_len me me (Nat.le_refl _)]; exact hown, hb⟩
      | succ q =>
        rw [show (((q + 1 : Nat) : Int) - 1) = (q : Int) by omega]
        have hs := highR_step me (me - (q + 1)) (by omega)
        rw [show me - 1 - (me - (q + 1)) = q by omega, show me - (q + 1) + 1 = me - q by omega] at hs
        have Hs := Lib.hid hs; clear hs
        go_wp2_with (at_builtin; refine wpList_append_own _ rfl _ _ 35 rfl w.heap.size 3 i0 (.int .i64 0) 1 8 Try.underlying35 hi hz0 hz1 hz2 rfl (by decide) _ _ _ rfl (hown.alloc _) ⟨wr.heap.size, 0, none⟩ 1 1 [.int .i64 q] rfl rfl ?d1 ?d2 ?d3 ?d4 ?d5 ?_)
        case d1 => exact cell_one_new _ _ _
        case d2 => intro u hu; simp at hu; subst hu; rfl
        case d3 => unfold maxLen; omega
        case d4 => omega
        case d5 => have := hb.size; simp; omega
        intro v' w1 hown' hgrow _
        have hb' : Below w.heap.size w w1 := (hb.alloc hb.size _).grown hgrow (by have := hb.size; simp; omega) (fun j hj => (hown.lt j hj).1)
        have hown2 : w1.ownsRow w.heap.size 3 1 v' (me - q) ((highR me (me - q)).map (Value.int .i64)) := by
          rw [Hs.out]
          rw [show me - (q + 1) + 1 = me - q by omega] at hown'
          simpa using hown'
        clear hown' hgrow hown hb
        go_wp2_with fail
        go_roundg q
        case measure => omega
        case rel => exact ⟨by omega, rfl, hown2, hb'⟩
end Go.Proofs.Ytbmnaimbognohaa
