/- The walk of the law TreeRound. -/
import Derived.Test.YtbmnaimbognohaaDown
import Derived.Deep.CutBlock
namespace Go.Proofs.Ytbmnaimbognohaa
open Go.RowKit Go.Joins
set_option linter.unusedVariables false

/-- the tree behind i ticks. -/
def roundT (n : Nat) (hears : Bool) (i : Nat) : T := if hears then ⟨n, 0, i⟩ else ⟨n, (i / 15) % (rowL n).length, ((i / 15 * 15 : Nat) : Int)⟩

theorem roundT_me (n : Nat) (hears : Bool) (i : Nat) : (roundT n hears i).me = n := by unfold roundT; split <;> rfl
theorem roundT_ok (n : Nat) (hears : Bool) (i : Nat) (h : n < 6) (hi : i ≤ 1000) : (roundT n hears i).ok := by
  have := rowL_pos n h
  unfold roundT; split
  · exact ⟨h, by show 0 < (rowL n).length; omega, by show _ ≤ (i : Int); omega, by show (i : Int) ≤ _; omega⟩
  · exact ⟨h, Nat.mod_lt _ (by omega), by show _ ≤ ((i / 15 * 15 : Nat) : Int); omega, by show ((i / 15 * 15 : Nat) : Int) ≤ _; omega⟩
theorem turns_own (t : T) : t.turns t.me true = true := by simp [T.turns]
theorem round_step_hears (n i : Nat) (h : n < 6) : ((roundT n true i).hear ((rowL n).getD 0 0) ((i + 1 : Nat) : Int)).tick n true ((i + 1 : Nat) : Int) = roundT n true (i + 1) := by
  have e1 : (roundT n true i).hear ((rowL n).getD 0 0) ((i + 1 : Nat) : Int) = ⟨n, 0, ((i + 1 : Nat) : Int)⟩ := by
    rw [hear_yes (by rfl)]; rfl
  rw [e1, tick_wait (turns_own ⟨n, 0, _⟩) (by show ¬ (((i + 1 : Nat) : Int) ≤ ((i + 1 : Nat) : Int) ∧ 15 ≤ ((i + 1 : Nat) : Int) - ((i + 1 : Nat) : Int)); omega)]
  rfl
theorem round_step_waits (n i : Nat) (h : n < 6) : (roundT n false i).tick n true ((i + 1 : Nat) : Int) = roundT n false (i + 1) := by
  have hl := rowL_pos n h
  have ht : (roundT n false i) = ⟨n, (i / 15) % (rowL n).length, ((i / 15 * 15 : Nat) : Int)⟩ := rfl
  rw [ht]
  have hturn := turns_own ⟨n, (i / 15) % (rowL n).length, ((i / 15 * 15 : Nat) : Int)⟩
  by_cases c : (i + 1) % 15 = 0
  · rw [tick_yes hturn (by show ((i / 15 * 15 : Nat) : Int) ≤ ((i + 1 : Nat) : Int) ∧ 15 ≤ ((i + 1 : Nat) : Int) - ((i / 15 * 15 : Nat) : Int); omega)]
    have e : (i + 1) / 15 = i / 15 + 1 := by omega
    show (⟨n, ((i / 15) % (rowL n).length + 1) % (rowL n).length, ((i + 1 : Nat) : Int)⟩ : T) = ⟨n, ((i + 1) / 15) % (rowL n).length, (((i + 1) / 15 * 15 : Nat) : Int)⟩
    rw [e, Nat.mod_add_mod]
    have : (i / 15 + 1) * 15 = i + 1 := by omega
    rw [this]
  · rw [tick_wait hturn (by show ¬ (((i / 15 * 15 : Nat) : Int) ≤ ((i + 1 : Nat) : Int) ∧ 15 ≤ ((i + 1 : Nat) : Int) - ((i / 15 * 15 : Nat) : Int)); omega)]
    have e : (i + 1) / 15 = i / 15 := by omega
    show _ = (⟨n, ((i + 1) / 15) % (rowL n).length, (((i + 1) / 15 * 15 : Nat) : Int)⟩ : T)
    rw [e]
theorem round_above (n i : Nat) (hears : Bool) : (roundT n hears i).above n true = (rowL n).getD (if hears then 0 else (i / 15) % (rowL n).length) 0 := by
  have h1 : (roundT n hears i).turns n true = true := by have := turns_own (roundT n hears i); rw [roundT_me] at this; exact this
  rw [T.above_yes h1]
  unfold roundT T.at
  split <;> rfl

set_option maxRecDepth 100000 in
set_option maxHeartbeats 4000000 in
theorem roundLaw (me ticks : Int) (hears : Bool) (hme0 : 0 ≤ me) (hme1 : me ≤ 255) (ht0 : 0 ≤ ticks) (ht1 : ticks ≤ 255) (w : World) :
    Calls Try.prog 5 #[.int .u8 me, .int .u8 ticks, .bool hears] w (RetB true w) := by
  obtain ⟨i0, hi, hz0, hz1, hz2⟩ := info_parts Try.info3
  obtain ⟨n, hn, hn6⟩ : ∃ n : Nat, me % 6 = (n : Int) ∧ n < 6 := ⟨(me % 6).toNat, by omega, by omega⟩
  go_enter Try.func5, Try.ntmps5
  go_upto_block 0 with (first
    | (go_at_call 9; refine (works_any _).mono ?_; rintro e w1 ⟨rfl, hb1⟩; have Hb1 := Lib.hid hb1; clear hb1)
    | (go_at_call 7; (try rw [hn]); refine (new_any n 0 _ hn6).mono ?_; rintro e w2 ⟨g, r, cap, rfl, htr, hb2, hg, hr⟩; have Htr := Lib.hid htr; have Hb2 := Lib.hid hb2; clear htr hb2))
  clear hn hme0 hme1
  have hb0 : Below w.heap.size w w2 := Hb1.out.trans (Hb2.out.mono Hb1.out.size)
  have hgw : w.heap.size ≤ g := Nat.le_trans Hb1.out.size hg
  have hlt := Htr.out.lt (by have := rowL_pos n hn6; show 0 < (rowL n).length; omega)
  clear hg hr Hb1 Hb2
  have Hb0 := Lib.hid hb0
  clear hb0
  obtain ⟨L1, hL1⟩ : ∃ L1, Hid (L1 = if 3 ≤ n then rowL n else []) := ⟨_, rfl⟩
  have hpos := rowL_pos n hn6
  go_cut [9, 10] (fun v j wx => wx.ownsRow w2.heap.size 3 1 v L1.length (L1.map (Value.int .i64)) ∧ Below w2.heap.size w2 wx)
  case first =>
    go_wp2_with fail
    by_cases h3 : 3 ≤ n
    · rw [if_pos h3] at hL1
      have Hend := Lib.hid ((highR_end n h3 hn6).trans hL1.out.symm)
      have h3' : (3 : Int) ≤ (n : Int) := by omega
      go_loopg [9, 10] n (fun r v j wr => r ≤ n ∧ j = .int .i64 ((r : Int) - 1) ∧ wr.ownsRow w2.heap.size 3 1 v (n - r) ((highR n (n - r)).map (Value.int .i64)) ∧ Below w2.heap.size w2 wr)
      case atStart => exact ⟨Nat.le_refl _, rfl, by rw [Nat.sub_self]; exact World.ownsRow_nil _ _ _ _, Below.refl _ _⟩
      case round =>
        obtain ⟨hr1, rfl, hown, hb⟩ := hrel
        cases gk with
        | zero =>
          rw [show (((0 : Nat) : Int) - 1) = (-1 : Int) by omega]
          rw [Nat.sub_zero, Hend.out] at hown
          go_wp2
          go_meet
          have hll : L1.length = n := by rw [← Hend.out]; exact highR_len n n (Nat.le_refl _)
          exact ⟨by rw [hll]; exact hown, hb⟩
        | succ q =>
          rw [show (((q + 1 : Nat) : Int) - 1) = (q : Int) by omega]
          have hs := highR_step n (n - (q + 1)) (by omega)
          rw [show n - 1 - (n - (q + 1)) = q by omega, show n - (q + 1) + 1 = n - q by omega] at hs
          have Hs := Lib.hid hs; clear hs
          go_wp2_with (at_builtin; refine wpList_append_own _ rfl _ _ 35 rfl w2.heap.size 3 i0 (.int .i64 0) 1 8 Try.underlying35 hi hz0 hz1 hz2 rfl (by decide) _ _ _ rfl (hown.alloc _) ⟨wr.heap.size, 0, none⟩ 1 1 [.int .i64 q] rfl rfl ?d1 ?d2 ?d3 ?d4 ?d5 ?_)
          case d1 => exact cell_one_new _ _ _
          case d2 => intro u hu; simp at hu; subst hu; rfl
          case d3 => unfold maxLen; omega
          case d4 => omega
          case d5 => have := hb.size; simp; omega
          intro v' w4 hown' hgrow _
          have hb' : Below w2.heap.size w2 w4 := (hb.alloc hb.size _).grown hgrow (by have := hb.size; simp; omega) (fun j hj => (hown.lt j hj).1)
          have hown2 : w4.ownsRow w2.heap.size 3 1 v' (n - q) ((highR n (n - q)).map (Value.int .i64)) := by
            rw [Hs.out]
            rw [show n - (q + 1) + 1 = n - q by omega] at hown'
            simpa using hown'
          clear hown' hgrow hown hb
          go_wp2_with fail
          go_roundg q
          case measure => omega
          case rel => exact ⟨by omega, rfl, hown2, hb'⟩
    · rw [if_neg h3] at hL1
      have h3' : ¬ ((3 : Int) ≤ (n : Int)) := by omega
      have h3'' : decide ((3 : Int) ≤ (n : Int)) = false := by simpa using h3'
      go_loopg [9, 10] 0 (fun r v j wr => v = .slice none 0 0 ∧ j = .int .i64 ((n : Int) - 1) ∧ wr = w2)
      case atStart => exact ⟨rfl, rfl, rfl⟩
      case round =>
        obtain ⟨rfl, rfl, rfl⟩ := hrel
        by_cases h1 : 1 ≤ n
        · go_wp2
          go_meet
          exact ⟨by rw [hL1.out]; exact World.ownsRow_nil _ _ _ _, Below.refl _ _⟩
        · have h1' : ¬ ((1 : Int) ≤ (n : Int)) := by omega
          go_wp2
          go_meet
          exact ⟨by rw [hL1.out]; exact World.ownsRow_nil _ _ _ _, Below.refl _ _⟩
  case rest =>
    obtain ⟨hown1, hbc⟩ := hcut
    have Hown1 := Lib.hid hown1
    have hbc1 := hbc
    clear hown1 hbc
    go_upto_block 2 with (fail)
    obtain ⟨wo, Hwo⟩ : ∃ wo, Hid (wo = wc) := ⟨_, rfl⟩
    rw [← Hwo.out] at Hown1 hbc1 ⊢
    clear Hwo
    go_cut [9, 11] (fun v j wx => wx.ownsRow w2.heap.size 3 1 v (rowL n).length ((rowL n).map (Value.int .i64)) ∧ Below w2.heap.size w2 wx)
    case first =>
      by_cases h3 : n < 3
      · rw [if_neg (by omega)] at hL1
        have Hend := Lib.hid (lowR_end n h3)
        have h3' : (n : Int) < 3 := by omega
        have hown0 : wo.ownsRow w2.heap.size 3 1 u9 (lowR n 0).length ((lowR n 0).map (Value.int .i64)) := by have := Hown1.out; rw [hL1.out] at this; exact this
        have Hown0 := Lib.hid hown0
        clear hown0
        go_wp2_with fail
        go_loopw [9, 11] (fun v i wr => ∃ c : Nat, c ≤ 3 ∧ i = .int .i64 c ∧ wr.ownsRow w2.heap.size 3 1 v (lowR n c).length ((lowR n c).map (Value.int .i64)) ∧ Below w2.heap.size w2 wr) (fun _ i _ => 3 - (intOf i).toNat)
        case atStart => exact ⟨0, by omega, rfl, Hown0.out, hbc1⟩
        case round =>
          obtain ⟨c, hc, rfl, hown, hb⟩ := hrel
          by_cases hlt2 : c < 3
          · have hs := lowR_step n c hlt2
            have hl := lowR_len n c hc
            have hlt2' : (c : Int) < 3 := by omega
            by_cases hcm : c = n
            · rw [if_pos hcm, List.append_nil] at hs
              have Hs := Lib.hid hs; clear hs
              have hbn : ((c : Int) != (n : Int)) = false := by simp [hcm]
              clear hcm
              go_wp2
              go_roundw
              case rel => exact ⟨c + 1, by omega, by go_num, by rw [Hs.out]; exact hown, hb⟩
              case measure => simp [intOf]; omega
            · rw [if_neg hcm] at hs
              have Hs := Lib.hid hs; clear hs
              have hbn : ((c : Int) != (n : Int)) = true := by simp; omega
              clear hcm
              go_wp2_with (at_builtin; refine wpList_append_own _ rfl _ _ 35 rfl w2.heap.size 3 i0 (.int .i64 0) 1 8 Try.underlying35 hi hz0 hz1 hz2 rfl (by decide) _ _ _ rfl (hown.alloc _) ⟨wr.heap.size, 0, none⟩ 1 1 [.int .i64 c] rfl rfl ?c1 ?c2 ?c3 ?c4 ?c5 ?_)
              case c1 => exact cell_one_new _ _ _
              case c2 => intro u hu; simp at hu; subst hu; rfl
              case c3 => unfold maxLen; omega
              case c4 => omega
              case c5 => have := hb.size; simp; omega
              intro v' w4 hown' hgrow _
              have hb' : Below w2.heap.size w2 w4 := (hb.alloc hb.size _).grown hgrow (by have := hb.size; simp; omega) (fun j hj => (hown.lt j hj).1)
              have hown2 : w4.ownsRow w2.heap.size 3 1 v' (lowR n (c + 1)).length ((lowR n (c + 1)).map (Value.int .i64)) := by rw [Hs.out]; simpa using hown'
              clear hown' hgrow hown hb
              go_wp2
              go_roundw
              case rel => exact ⟨c + 1, by omega, by go_num, hown2, hb'⟩
              case measure => simp [intOf]; omega
          · obtain rfl : c = 3 := by omega
            go_wp2
            go_meet
            exact ⟨by rw [← Hend.out]; exact hown, hb⟩
      · rw [if_pos (by omega)] at hL1
        have h3' : ¬ ((n : Int) < 3) := by omega
        have h3'' : decide ((n : Int) < 3) = false := by simpa using h3'
        go_wp2_with fail
        go_loopg [9, 11] 0 (fun r v j wr => v = u9 ∧ j = .int .i64 0 ∧ wr = wo)
        case atStart => exact ⟨rfl, rfl, rfl⟩
        case round =>
          obtain ⟨rfl, rfl, rfl⟩ := hrel
          go_wp2
          go_meet
          exact ⟨by rw [← hL1.out]; exact Hown1.out, hbc1⟩
    case rest =>
      obtain ⟨hown, hbx⟩ := hcut
      have hpos := rowL_pos n hn6
      obtain ⟨gr, cpr, rfl, hgr⟩ := own_slice hown (by omega)
      have Hrow := Lib.hid (row_of_own hown)
      have Hown := Lib.hid hown
      have hb3 : Below w.heap.size w wc := Hb0.out.trans (hbx.mono Hb0.out.size)
      have htr3 : Tr wc g r cap (roundT n hears 0) := by
        have h1 := Htr.out.mod (Mod.of_below hbx (Nat.le_refl _) (fun _ => False)) (fun h => h) (fun h => h)
        have e : roundT n hears 0 = ⟨n, 0, 0⟩ := by unfold roundT; split <;> simp
        rw [e]; exact h1
      have hgrne : gr ≠ g := by omega
      have Htr3 := Lib.hid htr3
      have Hb3 := Lib.hid hb3
      clear hown hbx htr3 hb3 Hown1 hbc1 Htr Hb0 hL1
      obtain ⟨m, hm⟩ : ∃ m, Hid (m = (rowL n).length) := ⟨_, rfl⟩
      rw [← hm.out] at hpos ⊢
      obtain ⟨k, hk, hk2⟩ : ∃ k : Nat, ticks = (k : Int) ∧ k ≤ 255 := ⟨ticks.toNat, by omega, by omega⟩
      subst hk
      clear ht0 ht1
      go_wp2_with fail
      go_loopw [12] (fun v wr => ∃ i : Nat, i ≤ k ∧ v = .int .i64 ((i + 1 : Nat) : Int) ∧ Tr wr g r cap (roundT n hears i) ∧ Row wr (some ⟨gr, 0, none⟩) (rowL n) ∧ Below w.heap.size w wr) (fun v _ => k + 1 - (intOf v).toNat)
      case atStart => exact ⟨0, by omega, by simp, Htr3.out, Hrow.out, Hb3.out⟩
      case round =>
        obtain ⟨i, hik, rfl, htr, hrow, hbr⟩ := hrel
        clear Htr3 Hrow Hb3 Hown
        have Htr := Lib.hid htr
        have Hrow := Lib.hid hrow
        have Hbr := Lib.hid hbr
        clear htr hrow hbr
        by_cases hlt : i < k
        · have hcells : ∀ wx, Row wx (some ⟨gr, 0, none⟩) (rowL n) → ∀ j, j < m → wx.cell? ⟨gr, j, none⟩ = some (.int .i64 ((rowL n).getD j 0)) := fun wx h j hj => by
            obtain ⟨b, off, e, hc⟩ := h j (by rw [← hm.out]; exact hj)
            simp at e; obtain ⟨rfl, rfl⟩ := e
            rw [Nat.zero_add] at hc
            exact hc
          have Hcells := Lib.hid hcells
          clear hcells
          obtain ⟨p, Hp⟩ : ∃ p, Hid (p = i + 1) := ⟨_, rfl⟩
          have hp1 : 1 ≤ p ∧ p ≤ k := by have := Hp.out; omega
          rw [show ((i + 1 : Nat) : Int) = (p : Int) by rw [Hp.out]]
          have hc0 := Hcells.out _ Hrow.out 0 (by omega)
          have hq1 : p / 15 % m < m := Nat.mod_lt _ (by omega)
          have hcq := Hcells.out _ Hrow.out _ hq1
          have hix0 : (0 : Int) ≤ (p : Int) / 15 % (m : Int) := Int.emod_nonneg _ (by omega)
          have hix1 : (p : Int) / 15 % (m : Int) < (m : Int) := Int.emod_lt_of_pos _ (by omega)
          have hixn : ((p : Int) / 15 % (m : Int)).toNat = p / 15 % m := by
            rw [show (p : Int) / 15 % (m : Int) = ((p / 15 % m : Nat) : Int) by simp, Int.toNat_natCast]
          have Hok := Lib.hid (roundT_ok n hears i hn6 (by omega))
          have Hok2 := Lib.hid (roundT_ok n hears p hn6 (by omega))
          have Hab := Lib.hid (round_above n p hears)
          have hmod : Hid (Mod (fun _ => False) wr wr) := Mod.refl _ _
          cases hears with
          | true =>
            have hst := round_step_hears n i hn6
            rw [← Hp.out] at hst
            have Hst := Lib.hid hst
            clear hst
            have Hab2 : Hid ((roundT n true p).above n true = (rowL n).getD 0 0) := Hab.out
            have Hokh := Lib.hid (T.hear_ok Hok.out ((rowL n).getD 0 0) (p : Int) ⟨by omega, by omega⟩)
            generalize (rowL n).getD 0 0 = v0 at *
            generalize (rowL n).getD (p / 15 % m) 0 = vq at *
            have hvb : (v0 != v0) = false := by simp
            go_wp2_with (first
              | (go_at_call 10; refine (hear_any g r cap _ _ _ _ Htr.out Hok.out).mono ?_; rintro e w5 ⟨rfl, ht5, hm5⟩; have Ht5 := Lib.hid ht5; have Hm5 := Lib.hid hm5; have hd0 := hm5.cell hc0 (by show ¬ (gr = g); omega); have hdq := hm5.cell hcq (by show ¬ (gr = g); omega); clear ht5 hm5 hc0 hcq)
              | (go_at_call 12; refine (tick_any g r cap _ _ _ _ _ Ht5.out Hokh.out (by omega) (by omega)).mono ?_; rintro e w6 ⟨rfl, ht6, hm6⟩; rw [Hst.out] at ht6; have Ht6 := Lib.hid ht6; have Hm6 := Lib.hid hm6; have he0 := hm6.cell hd0 (by show ¬ (gr = g); omega); have heq := hm6.cell hdq (by show ¬ (gr = g); omega); clear ht6 hm6 hd0 hdq)
              | (go_at_call 14; refine (above_any g r cap _ _ _ _ Ht6.out Hok2.out).mono ?_; rintro e w7 ⟨rfl, hq7⟩; have Hq7 := Lib.hid (quiet_mod hq7); clear hq7 he0 heq; rw [Hab2.out]))
            go_roundw
            case rel =>
              have hm : Mod (fun k => k = g) wr w7 := (Hm5.out.trans Hm6.out).trans (Hq7.out.mono (fun _ _ h => h.elim))
              refine ⟨p, hp1.2, by simp, Ht6.out.mod Hq7.out (fun h => h) (fun h => h), row_mod Hrow.out hm hgrne, Hbr.out.trans (hm.below (B := w.heap.size) Hbr.out.size (by intro k hk; omega))⟩
            case measure => have := Hp.out; simp [intOf]; omega
          | false =>
            have hst := round_step_waits n i hn6
            rw [← Hp.out] at hst
            have Hst := Lib.hid hst
            clear hst
            have Hab2 : Hid ((roundT n false p).above n true = (rowL n).getD (p / 15 % m) 0) := by have := Hab.out; rw [hm.out]; exact this
            generalize (rowL n).getD 0 0 = v0 at *
            generalize (rowL n).getD (p / 15 % m) 0 = vq at *
            have hvb : (vq != vq) = false := by simp
            go_wp2_with (first
              | (go_at_call 12; refine (tick_any g r cap _ _ _ _ _ Htr.out Hok.out (by omega) (by omega)).mono ?_; rintro e w6 ⟨rfl, ht6, hm6⟩; rw [Hst.out] at ht6; have Ht6 := Lib.hid ht6; have Hm6 := Lib.hid hm6; have he0 := hm6.cell hc0 (by show ¬ (gr = g); omega); have heq := hm6.cell hcq (by show ¬ (gr = g); omega); clear ht6 hm6 hc0 hcq)
              | (go_at_call 14; refine (above_any g r cap _ _ _ _ Ht6.out Hok2.out).mono ?_; rintro e w7 ⟨rfl, hq7⟩; have Hq7 := Lib.hid (quiet_mod hq7); clear hq7 he0 heq; rw [Hab2.out]))
            go_roundw
            case rel =>
              have hm : Mod (fun k => k = g) wr w7 := Hm6.out.trans (Hq7.out.mono (fun _ _ h => h.elim))
              refine ⟨p, hp1.2, by simp, Ht6.out.mod Hq7.out (fun h => h) (fun h => h), row_mod Hrow.out hm hgrne, Hbr.out.trans (hm.below (B := w.heap.size) Hbr.out.size (by intro k hk; omega))⟩
            case measure => have := Hp.out; simp [intOf]; omega
        · go_wp2
          go_ret
          exact retB rfl Hbr.out
end Go.Proofs.Ytbmnaimbognohaa
