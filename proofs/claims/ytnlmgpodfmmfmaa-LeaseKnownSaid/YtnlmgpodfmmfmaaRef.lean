/- The walk of the reference's Until. -/
import Derived.Test.YtnlmgpodfmmfmaaSecond
import Derived.BigQuiet
import Derived.Deep.QuietTactic
namespace Go.Proofs.Ytnlmgpodfmmfmaa
open Go.RowKit

theorem Try.info2 : (Try.prog.info? 2).map (fun i => (i.zero, i.size, i.bytes)) = some (some (.int .i64 0), 1, 8) := by kernel_rfl

theorem pos_step (xs : List Int) (k : Nat) (h : k < xs.length) : pos (xs.take (k + 1)) = pos (xs.take k) ++ (if 0 ≤ xs.getD k 0 then [xs.getD k 0] else []) := by
  rw [List.take_succ_eq_append_getElem h]
  unfold pos
  rw [List.filter_append]
  by_cases c : 0 ≤ xs[k] <;> simp [h, c]
theorem pos_len (xs : List Int) (k : Nat) : (pos (xs.take k)).length ≤ k := Nat.le_trans (List.length_filter_le _ _) (List.length_take_le _ _)

/-- what the document says. -/
def untilR (now : Int) (xs : List Int) : Int := if pos xs = [] then 0 else laterS (topS now (pos xs)).2 20

theorem topS_in (lo hi : Int) (now : Int) (q : List Int) (hn : lo ≤ now ∧ now ≤ hi) (hq : ∀ t ∈ q, lo ≤ t ∧ t ≤ hi) : (lo ≤ (topS now q).1 ∧ (topS now q).1 ≤ hi) ∧ lo ≤ (topS now q).2 ∧ (topS now q).2 ≤ hi := by
  have key : ∀ (q : List Int) (p : Int × Int), (∀ t ∈ q, lo ≤ t ∧ t ≤ hi) → (lo ≤ p.1 ∧ p.1 ≤ hi) → (lo ≤ p.2 ∧ p.2 ≤ hi) →
      (lo ≤ (q.foldl topStep p).1 ∧ (q.foldl topStep p).1 ≤ hi) ∧ lo ≤ (q.foldl topStep p).2 ∧ (q.foldl topStep p).2 ≤ hi := by
    intro q
    induction q with
    | nil => intro p _ h1 h2; exact ⟨h1, h2⟩
    | cons t q ih =>
      intro p hq h1 h2
      have ht := hq t (by simp)
      simp only [List.foldl_cons]
      refine ih _ (fun x hx => hq x (by simp [hx])) ?_ ?_
      · unfold topStep; split
        · exact ht
        · split <;> exact h1
      · unfold topStep; split
        · exact h1
        · split
          · exact ht
          · exact h2
  cases q with
  | nil => exact ⟨hn, hn⟩
  | cons t q =>
    have ht := hq t (by simp)
    unfold topS
    refine key q _ (fun x hx => hq x (by simp [hx])) ?_ ?_
    · split
      · exact ht
      · exact hn
    · split
      · exact hn
      · exact ht

theorem top_take (xs : List Int) (s : Int × Int) (k : Nat) (h : k < xs.length) : (xs.take (k + 1)).foldl topStep s = topStep ((xs.take k).foldl topStep s) (xs.getD k 0) := by
  rw [List.take_succ_eq_append_getElem h, List.foldl_append]
  simp [h]

theorem own_slice {w : World} {base : Nat} {e : TypeId} {size : Nat} {v : Value} {n : Nat} {xs : List Value} (h : w.ownsRow base e size v n xs) (hn : 0 < n) :
    ∃ g cap, v = .slice (some ⟨g, 0, none⟩) n cap ∧ base ≤ g := by
  rcases h.2 with ⟨_, h0⟩ | ⟨g, cap, cur, hv, hb, _⟩
  · omega
  · exact ⟨g, cap, hv, hb⟩

def RetI0 (n : Int) (w : World) (e : Ending) (w' : World) : Prop := e = .returned (.int .i64 n) ∧ Below w.heap.size w w'

set_option maxHeartbeats 1000000 in
theorem runtil_any (now : Int) (a : Option Addr) (cap : Nat) (xs : List Int) (w : World) (hm : xs.length ≤ 1000) (hc : Row w a xs)
    (hn1 : -9223372036854775808 ≤ now) (hn2 : now ≤ 9223372036854775807) (hx : ∀ t ∈ xs, -9223372036854775808 ≤ t ∧ t ≤ 9223372036854775807) :
    Calls Try.prog 9 #[.slice a xs.length cap, .int .i64 now] w (RetI (untilR now xs) w) := by
  obtain ⟨i0, hi, hz0, hz1, hz2⟩ := info_parts Try.info2
  have Hc : Hid (Row w a xs) := hc
  have Hx := Lib.hid hx
  clear hc hx
  go_enter Try.func9, Try.ntmps9
  go_wp2
  go_loopw [5, 6] (fun v i wr => ∃ k : Nat, k ≤ xs.length ∧ i = .int .i64 k ∧ wr.ownsRow w.heap.size 2 1 v ((pos (xs.take k)).length + 1) ((now :: pos (xs.take k)).map (Value.int .i64)) ∧ Below w.heap.size w wr)
    (fun _ i _ => xs.length - (intOf i).toNat)
  case atStart =>
    refine ⟨0, Nat.zero_le _, rfl, ?_, ?_⟩
    · exact World.ownsRow_lit _ _ 1 (Nat.le_refl _) (by unfold maxLen; omega) rfl
    · exact (Below.refl _ _).alloc (Nat.le_refl _) _
  case round =>
    obtain ⟨k, hk, rfl, hown, hnx⟩ := hrel
    have hpl := pos_len xs k
    by_cases hlt : k < xs.length
    · obtain ⟨b, off, rfl, hcell0⟩ := Hc.out k hlt
      have hcell : wr.cell? ⟨b, off + k, none⟩ = some (.int .i64 (xs.getD k 0)) := (hnx.cell (World.block_lt_of_cell? _ _ hcell0)).trans hcell0
      clear hcell0
      have Hps := Lib.hid (pos_step xs k hlt)
      by_cases c : 0 ≤ xs.getD k 0
      · rw [if_pos c] at Hps
        generalize xs.getD k 0 = t at *
        go_wp2_with (at_builtin; refine wpList_append_own _ rfl _ _ 22 rfl w.heap.size 2 i0 (.int .i64 0) 1 8 Try.underlying22 hi hz0 hz1 hz2 rfl (by decide) _ _ _ rfl (hown.alloc _) ⟨wr.heap.size, 0, none⟩ 1 1 [.int .i64 t] rfl rfl ?c1 ?c2 ?c3 ?c4 ?c5 ?_)
        case c1 => exact cell_one_new _ _ _
        case c2 => intro u hu; simp at hu; subst hu; rfl
        case c3 => unfold maxLen; omega
        case c4 => omega
        case c5 => have := hnx.size; simp; omega
        intro v' w1 hown' hgrow _
        have hnx' : Below w.heap.size w w1 := (hnx.alloc hnx.size _).grown hgrow (by have := hnx.size; simp; omega) (fun j hj => (hown.lt j hj).1)
        have hown2 : w1.ownsRow w.heap.size 2 1 v' ((pos (xs.take (k + 1))).length + 1) ((now :: pos (xs.take (k + 1))).map (Value.int .i64)) := by
          rw [Hps.out]; simpa using hown'
        clear hown' hgrow hown hnx
        go_wp2
        go_roundw
        case rel => exact ⟨k + 1, by omega, by go_num, hown2, hnx'⟩
        case measure => simp [intOf]; omega
      · rw [if_neg c, List.append_nil] at Hps
        generalize xs.getD k 0 = t at *
        go_wp2
        go_roundw
        case rel => exact ⟨k + 1, by omega, by go_num, by rw [Hps.out]; exact hown, hnx⟩
        case measure => simp [intOf]; omega
    · obtain rfl : k = xs.length := by omega
      clear hk hlt
      rw [List.take_length] at hown hpl
      have hq : ∀ t ∈ pos xs, -9223372036854775808 ≤ t ∧ t ≤ 9223372036854775807 := fun t ht => Hx.out t (List.mem_filter.1 ht).1
      have Hun : Hid (untilR now xs = if pos xs = [] then 0 else laterS (topS now (pos xs)).2 20) := rfl
      generalize hQ : pos xs = q at *
      clear hQ
      obtain ⟨g, cp, rfl, hg⟩ := own_slice hown (by omega)
      have hcell := fun j (hj : j < q.length + 1) => hown.cellAt j (by omega)
      have hb := hnx
      clear hown
      cases q with
      | nil =>
        rw [if_pos rfl] at Hun
        go_wp2
        go_ret
        exact retI Hun.out.symm hb
      | cons x r =>
        rw [if_neg (by simp)] at Hun
        have h0 : wr.cell? ⟨g, 0, none⟩ = some (.int .i64 now) := hcell 0 (by omega)
        have h1 : wr.cell? ⟨g, 1, none⟩ = some (.int .i64 x) := hcell 1 (by simp)
        have h2 : Hid (∀ j, j < r.length → wr.cell? ⟨g, j + 2, none⟩ = some (.int .i64 (r.getD j 0))) := fun j hj => by
          rw [hcell (j + 2) (by simp; omega)]; simp [hj]
        clear hcell
        have HR : Hid (∀ y ∈ x :: r, -9223372036854775808 ≤ y ∧ y ≤ 9223372036854775807) := hq
        clear hq
        have hm2 : 2 ≤ (x :: r).length + 1 := by simp
        obtain ⟨m, Hm⟩ : ∃ m, Hid (m = r.length + 2) := ⟨_, rfl⟩
        have hm4 : m ≤ 1001 := by have := Hm.out; simp at hpl; omega
        rw [show (x :: r).length + 1 = m from Hm.out.symm] at *
        have hlen : ((m : Int) == 1) = false := by simp; omega
        have hl2 : (1 : Int) < (m : Int) := by omega
        have hl3 : (0 : Int) < (m : Int) := by omega
        go_wp2
        go_quiet (fail)
        have htop : Hid (topS now (x :: r) = r.foldl topStep (if now < x then (x, now) else (now, x))) := rfl
        have hTb := (topS_in (-9223372036854775808) 9223372036854775807 now (x :: r) ⟨hn1, hn2⟩ HR.out).2
        generalize topS now (x :: r) = T at Hun htop hTb
        clear h0 h1
        have hb2 : Below w.heap.size w (wr.drewN nq) := below_drewN hb _
        have h3 : Hid (∀ j, j < r.length → (wr.drewN nq).cell? ⟨g, j + 2, none⟩ = some (.int .i64 (r.getD j 0))) := fun j hj => by
          rw [(below_drewN (Below.refl (g + 1) wr) nq).cell (by simp)]; exact h2.out j hj
        clear hb hnx h2
        generalize wr.drewN nq = w2 at *
        obtain ⟨I, HI⟩ : ∃ I, Hid (I = if now < x then (x, now) else (now, x)) := ⟨_, rfl⟩
        rw [← HI.out] at htop
        by_cases c : now < x
        all_goals
          first | rw [if_pos c] at HI | rw [if_neg c] at HI
          go_wp2
          clear c
          go_loop [7, 8, 9] (fun f s i => ∃ k : Nat, k ≤ r.length ∧ i = .int .i64 ((k : Int) + 2) ∧ f = .int .i64 ((r.take k).foldl topStep I).1 ∧ s = .int .i64 ((r.take k).foldl topStep I).2) (fun _ _ i => m - (intOf i).toNat)
          case atStart => exact ⟨0, Nat.zero_le _, rfl, by rw [HI.out]; rfl, by rw [HI.out]; rfl⟩
          case round =>
            obtain ⟨k, hk, rfl, rfl, rfl⟩ := hrel
            have hkm : k + 2 ≤ m := by have := Hm.out; omega
            by_cases hlt : k < r.length
            · have hlm : k + 2 < m := by have := Hm.out; omega
              have hcell := h3.out k hlt
              have Hts := Lib.hid (top_take r I k hlt)
              generalize (r.take k).foldl topStep I = S at *
              generalize r.getD k 0 = t at *
              obtain ⟨f, s⟩ := S
              by_cases c1 : f < t
              · have H2 := Lib.hid (show topStep (f, s) t = (t, f) by simp [topStep, c1])
                go_wp2
                go_round
                case rel => exact ⟨k + 1, by omega, by go_num, by rw [Hts.out, H2.out], by rw [Hts.out, H2.out]⟩
                case measure => simp [intOf]; omega
              · by_cases c2 : s < t
                · have H2 := Lib.hid (show topStep (f, s) t = (f, t) by simp [topStep, c1, c2])
                  go_wp2
                  go_round
                  case rel => exact ⟨k + 1, by omega, by go_num, by rw [Hts.out, H2.out], by rw [Hts.out, H2.out]⟩
                  case measure => simp [intOf]; omega
                · have H2 := Lib.hid (show topStep (f, s) t = (f, s) by simp [topStep, c1, c2])
                  go_wp2
                  go_round
                  case rel => exact ⟨k + 1, by omega, by go_num, by rw [Hts.out, H2.out], by rw [Hts.out, H2.out]⟩
                  case measure => simp [intOf]; omega
            · obtain rfl : k = r.length := by omega
              rw [List.take_length, ← htop.out]
              have hmm : ¬ ((r.length : Int) + 2 < (m : Int)) := by have := Hm.out; omega
              go_wp2_with (go_at_call 18; refine (plus_any _ _ _ (by omega) (by omega) (by omega) (by omega)).mono ?_; rintro e w' ⟨rfl, rfl⟩)
              go_ret
              exact retI Hun.out.symm hb2
end Go.Proofs.Ytnlmgpodfmmfmaa
