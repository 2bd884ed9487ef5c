/- The walk of the law LeaseGrows. -/
import Derived.Test.YtnlmgpodfmmfmaaSure
import Derived.Test.YtnlmgpodfmmfmaaMono
import Derived.Deep.DeepCutAuto
import Derived.Deep.LoopGhost
namespace Go.Proofs.Ytnlmgpodfmmfmaa
open Go.RowKit

/-- What the call owns, as a row. -/
theorem own_row {w : World} {base : Nat} {v : Value} {n : Nat} {xs : List Int} (h : w.ownsRow base 2 1 v n (xs.map (Value.int .i64))) :
    ∃ a cap, v = .slice a n cap ∧ xs.length = n ∧ (∀ b off, a = some ⟨b, off, none⟩ → base ≤ b ∧ b < w.heap.size) ∧ Row w a xs := by
  have hl : xs.length = n := by have := h.1; simpa using this
  rcases h.2 with ⟨rfl, rfl⟩ | ⟨g, cap, cur, rfl, hb, hg, _⟩
  · exact ⟨none, 0, rfl, hl, by simp, fun i hi => by omega⟩
  · refine ⟨some ⟨g, 0, none⟩, cap, rfl, hl, ?_, ?_⟩
    · intro b off e; simp at e; obtain ⟨rfl, _⟩ := e; exact ⟨hb, (Array.getElem?_eq_some_iff.1 hg).1⟩
    · intro i hi
      refine ⟨g, 0, rfl, ?_⟩
      rw [Nat.zero_add, h.cellAt i (by omega)]
      simp [hi]

theorem row_of_own {w : World} {base g cap n : Nat} {xs : List Int} (h : w.ownsRow base 2 1 (.slice (some ⟨g, 0, none⟩) n cap) n (xs.map (Value.int .i64))) : Row w (some ⟨g, 0, none⟩) xs := by
  have hl : xs.length = n := by have := h.1; simpa using this
  intro i hi
  refine ⟨g, 0, rfl, ?_⟩
  rw [Nat.zero_add, h.cellAt i (by omega)]
  simp [hi]

theorem own_below {w w' : World} {base e size : Nat} {v : Value} {n : Nat} {xs : List Value} (h : w.ownsRow base e size v n xs) (hb : Below w.heap.size w w') : w'.ownsRow base e size v n xs := by
  refine ⟨h.1, ?_⟩
  rcases h.2 with h2 | ⟨g, cap, cur, hv, hg, hh, r⟩
  · exact .inl h2
  · exact .inr ⟨g, cap, cur, hv, hg, by rw [hb.block g (Array.getElem?_eq_some_iff.1 hh).1]; exact hh, r⟩

theorem rev_step (ys : List Int) (c : Nat) (h : c < ys.length) : ys.reverse.take (c + 1) = ys.reverse.take c ++ [ys.getD (ys.length - 1 - c) 0] := by
  rw [List.take_succ_eq_append_getElem (by simpa using h)]
  congr 1
  rw [List.getElem_reverse]
  simp [show ys.length - 1 - c < ys.length by omega]

theorem storeCall (w : World) (base g cp n i : Nat) (t0 M : Int) (ys : List Int) (h : w.ownsRow base 2 1 (.slice (some ⟨g, 0, none⟩) n cp) n (ys.map (Value.int .i64))) (hn : n ≤ 1000)
    (n1 : -9223372036854775808 ≤ t0) (n2 : t0 ≤ 9223372036854775807) (hx : ∀ t ∈ ys, -9223372036854775808 ≤ t ∧ t ≤ 9223372036854775807) (hM : -9223372036854775808 ≤ M ∧ M ≤ 9223372036854775807) :
    Calls Try.prog 10 #[.slice (some ⟨g, 0, none⟩) n cp, .int .i64 t0] (w.setCell ⟨g, i, none⟩ (.int .i64 M)) (RetI (untilR t0 (ys.set i M)) (w.setCell ⟨g, i, none⟩ (.int .i64 M))) := by
  have hl : ys.length = n := by have := h.1; simpa using this
  have h2 := (h.stored i (.int .i64 M)).1
  rw [show (ys.map (Value.int .i64)).set i (.int .i64 M) = (ys.set i M).map (Value.int .i64) by rw [List.map_set]] at h2
  refine until_len t0 _ n cp (ys.set i M) _ (by simpa using hl) hn (row_of_own h2) n1 n2 ?_
  intro t ht
  rcases List.mem_or_eq_of_mem_set ht with h3 | rfl
  · exact hx t h3
  · exact hM

theorem own_empty (w : World) (o : Obj) (nq : Nat) : ((((w.alloc o).drewN nq).alloc (.cells #[] 2))).ownsRow w.heap.size 2 1 (.slice (some ⟨w.heap.size + 1, 0, none⟩) 0 0) 0 [] := by
  have := World.ownsRow_lit (base := w.heap.size) (e := 2) (size := 1) ((w.alloc o).drewN nq) #[] 0 (by simp) (by unfold maxLen; omega) rfl
  simpa using this

/-- the cells that an append takes from a row that came in. -/
theorem row_news {w w' : World} {a : Addr} {xs : List Int} (h : Row w (some a) xs) (hb : Below w.heap.size w w') :
    ∀ j u, (xs.map (Value.int .i64))[j]? = some u → w'.cell? (a.add j) = some u := by
  intro j u hu
  have hj : j < xs.length := by
    have := (List.getElem?_eq_some_iff.1 hu).1; simpa using this
  obtain ⟨b, off, e, hc⟩ := row_below h hb j hj
  simp only [Option.some.injEq] at e
  subst e
  rw [WideShapes.add_plain, hc]
  rw [← hu]; simp [hj]

set_option maxRecDepth 100000 in
set_option maxHeartbeats 2000000 in
theorem lawGrows (a : Option Addr) (len cap : Nat) (xs : List Int) (k t0 t1 : Int) (w : World) (hl : xs.length = len) (hlc : len ≤ cap) (hcm : cap ≤ maxLen) (hnil : a = none → cap = 0) (hr : Row w a xs)
    (hx : ∀ t ∈ xs, -9223372036854775808 ≤ t ∧ t ≤ 9223372036854775807)
    (k0 : 0 ≤ k) (k1 : k ≤ 255) (n1 : -9223372036854775808 ≤ t0) (n2 : t0 ≤ 9223372036854775807) (d1 : -9223372036854775808 ≤ t1) (d2 : t1 ≤ 9223372036854775807) :
    Calls Try.prog 6 #[.slice a len cap, .int .u8 k, .agg #[.int .i64 t0, .int .i64 t1]] w (RetB true w) := by
  unfold maxLen at hcm
  have hr1 := row_take hr 20
  have hl1 : (xs.take 20).length = min 20 len := by simp [hl]
  have hx1 : ∀ t ∈ xs.take 20, -9223372036854775808 ≤ t ∧ t ≤ 9223372036854775807 := fun t ht => hx t (List.mem_of_mem_take ht)
  generalize xs.take 20 = ys at *
  clear hr hx
  have Hl1 := Lib.hid hl1
  have Hr1 := Lib.hid hr1; clear hr1
  have Hx1 := Lib.hid hx1; clear hx1
  have hy20 : ys.length ≤ 20 := by omega
  clear hl1 hl
  obtain ⟨i0, hi, hz0, hz1, hz2⟩ := info_parts Try.info2
  go_enter Try.func6, Try.ntmps6
  go_wp2
  go_quiet (fail)
  go_upto_region 2 with (fail)
  go_cut [9] (fun v wx => wx.ownsRow w.heap.size 2 1 v ys.length (ys.map (Value.int .i64)) ∧ Below w.heap.size w wx)
  case first =>
    have cases3 : (a = none ∧ len = 0 ∧ cap = 0) ∨ (∃ x, a = some x) ∧ 20 < len ∨ (∃ x, a = some x) ∧ len ≤ 20 := by
      cases a with
      | none => have := hnil rfl; exact .inl ⟨rfl, by omega, this⟩
      | some a => by_cases c : 20 < len
                  · exact .inr (.inl ⟨⟨_, rfl⟩, c⟩)
                  · exact .inr (.inr ⟨⟨_, rfl⟩, by omega⟩)
    clear hnil
    rcases cases3 with ⟨rfl, rfl, rfl⟩ | ⟨⟨a, rfl⟩, c⟩ | ⟨⟨a, rfl⟩, c⟩
    · go_wp2_with fail
      go_meet
      obtain rfl : ys = [] := List.eq_nil_of_length_eq_zero (by have := Hl1.out; omega)
      exact ⟨own_empty w _ nq, (below_drewN ((Below.refl _ _).alloc (Nat.le_refl _) _) _).alloc (by simp) _⟩
    · have hm : ys.length = min 20 len := Hl1.out
      have hown : ((((w.alloc (.cells #[.int .i64 t0, .int .i64 t1] 30)).drewN nq).alloc (.cells #[] 2))).ownsRow w.heap.size 2 1 (.slice (some ⟨w.heap.size + 1, 0, none⟩) 0 0) 0 [] := own_empty w _ nq
      have hb1 : Below w.heap.size w (((w.alloc (.cells #[.int .i64 t0, .int .i64 t1] 30)).drewN nq).alloc (.cells #[] 2)) := (below_drewN ((Below.refl _ _).alloc (Nat.le_refl _) _) _).alloc (by simp) _
      have hnews := row_news Hr1.out hb1
      have Hm := Lib.hid hm
      have Hnews := Lib.hid hnews
      clear hm hnews
      go_wp2_with (at_builtin; refine wpList_append_own _ rfl (.tmp 20) (.tmp 25) 22 rfl w.heap.size 2 i0 (.int .i64 0) 1 8 Try.underlying22 hi hz0 hz1 hz2 rfl (by decide) _ 0 [] rfl hown a _ _ (ys.map (Value.int .i64)) rfl ?c0 ?c1 ?c2 ?c3 ?c4 ?c5 ?_)
      case c0 => have := Hm.out; simp; omega
      case c1 => exact Hnews.out
      case c2 => exact ints_oneCell _ _
      case c3 => unfold maxLen; omega
      case c4 => omega
      case c5 => exact hb1.size
      intro v' w1 hown' hgrow _
      have hb2 : Below w.heap.size w w1 := hb1.grown hgrow hb1.size (by intro k hk; simp [Value.ownBlock] at hk; omega)
      clear hgrow
      go_wp2_with fail
      go_meet
      exact ⟨by
        have := Hm.out
        first | (rw [show ys.length = 20 by omega]; exact hown') | (rw [show ys.length = len by omega]; exact hown'), hb2⟩
    · have hm : ys.length = min 20 len := Hl1.out
      have hown : ((((w.alloc (.cells #[.int .i64 t0, .int .i64 t1] 30)).drewN nq).alloc (.cells #[] 2))).ownsRow w.heap.size 2 1 (.slice (some ⟨w.heap.size + 1, 0, none⟩) 0 0) 0 [] := own_empty w _ nq
      have hb1 : Below w.heap.size w (((w.alloc (.cells #[.int .i64 t0, .int .i64 t1] 30)).drewN nq).alloc (.cells #[] 2)) := (below_drewN ((Below.refl _ _).alloc (Nat.le_refl _) _) _).alloc (by simp) _
      have hnews := row_news Hr1.out hb1
      have Hm := Lib.hid hm
      have Hnews := Lib.hid hnews
      clear hm hnews
      go_wp2_with (at_builtin; refine wpList_append_own _ rfl (.tmp 20) (.tmp 25) 22 rfl w.heap.size 2 i0 (.int .i64 0) 1 8 Try.underlying22 hi hz0 hz1 hz2 rfl (by decide) _ 0 [] rfl hown a _ _ (ys.map (Value.int .i64)) rfl ?d0 ?d1 ?d2 ?d3 ?d4 ?d5 ?_)
      case d0 => have := Hm.out; simp; omega
      case d1 => exact Hnews.out
      case d2 => exact ints_oneCell _ _
      case d3 => unfold maxLen; omega
      case d4 => omega
      case d5 => exact hb1.size
      intro v' w1 hown' hgrow _
      have hb2 : Below w.heap.size w w1 := hb1.grown hgrow hb1.size (by intro k hk; simp [Value.ownBlock] at hk; omega)
      clear hgrow
      go_wp2_with fail
      go_meet
      exact ⟨by
        have := Hm.out
        first | (rw [show ys.length = 20 by omega]; exact hown') | (rw [show ys.length = len by omega]; exact hown'), hb2⟩
  case rest =>
    clear hnil
    obtain ⟨hown, hb⟩ := hcut
    by_cases hy : ys = []
    · subst hy
      obtain ⟨ar, cp, rfl, _, hblk2, hrow⟩ := own_row hown
      clear hown
      go_wp2_with (first
        | (go_at_call 10; refine (until_len _ _ _ _ [] _ rfl (by decide) hrow n1 n2 (by simp)).mono ?_; rintro e w1 ⟨rfl, hb1⟩; rw [show untilR t0 [] = 0 from rfl])
        | (go_at_call 17; refine (works_any _).mono ?_; rintro e w1 ⟨rfl, hb1⟩))
      go_ret
      refine retB rfl ?_
      repeat (first | assumption | (refine grew_trans ?_ (by assumption)))
    · have hn1 : 1 ≤ ys.length := by cases ys with | nil => exact absurd rfl hy | cons => simp
      clear hy
      obtain ⟨g, cp, rfl, hg⟩ := own_slice hown (by omega)
      have hrow := row_of_own hown
      have Hown := Lib.hid hown; clear hown
      have Hrow := Lib.hid hrow; clear hrow
      have hgs : g < wc.heap.size := by
        have := Hown.out.lt g rfl; exact this.2
      have hu := untilR_in t0 ys ⟨n1, n2⟩ Hx1.out
      generalize hU : untilR t0 ys = U at hu
      have HU := Lib.hid hU; clear hU
      obtain ⟨n, hn⟩ : ∃ n, n = ys.length := ⟨_, rfl⟩
      have Hn := Lib.hid hn
      rw [← hn] at hn1 hy20
      rw [show ys.length = n from hn.symm]
      clear hn
      have hz : ((n : Int) == 0) = false := by simp; omega
      obtain ⟨i, hie, hin⟩ : ∃ i : Nat, k % (n : Int) = (i : Int) ∧ i < n := ⟨(k % (n : Int)).toNat, by
        have := Int.emod_nonneg k (show (n : Int) ≠ 0 by omega)
        have := Int.emod_lt_of_pos k (show (0 : Int) < n by omega)
        omega⟩
      go_wp2_with (first | (go_at_call 10; refine (until_len _ _ _ _ ys _ Hn.out.symm (by omega) Hrow.out n1 n2 Hx1.out).mono ?_; rintro e w2 ⟨rfl, hb2⟩; rw [HU.out]))
      rw [hie]
      clear hie k0 k1
      have Hown2 : Hid (w2.ownsRow w.heap.size 2 1 (.slice (some ⟨g, 0, none⟩) n cp) n (ys.map (Value.int .i64))) := own_below (by have := Hown.out; rw [← Hn.out] at this; exact this) hb2
      have hb3 : Below w.heap.size w w2 := hb.trans (hb2.mono hb.size)
      have hgs2 : g < w2.heap.size := by have := hb2.size; omega
      clear Hown Hrow hb hb2 hgs
      have Hrow2 := Lib.hid (row_of_own Hown2.out)
      go_loopg [12, 13] n (fun r v j wr => r ≤ n ∧ j = .int .i64 ((r : Int) - 1) ∧ wr.ownsRow w2.heap.size 2 1 v (n - r) ((ys.reverse.take (n - r)).map (Value.int .i64)) ∧ Below w2.heap.size w2 wr)
      case atStart => exact ⟨Nat.le_refl _, rfl, by rw [Nat.sub_self]; exact World.ownsRow_nil _ _ _ _, Below.refl _ _⟩
      case round =>
        obtain ⟨hr1, rfl, hown, hbr⟩ := hrel
        cases gk with
        | succ q =>
          rw [show (((q + 1 : Nat) : Int) - 1) = (q : Int) by omega]
          have hcell : wr.cell? ⟨g, q, none⟩ = some (.int .i64 (ys.getD q 0)) := by
            obtain ⟨b, off, e, hc⟩ := Hrow2.out q (by rw [← Hn.out]; omega)
            simp at e; obtain ⟨rfl, rfl⟩ := e
            rw [Nat.zero_add] at hc
            exact (hbr.cell hgs2).trans hc
          have hrs := rev_step ys (n - (q + 1)) (by rw [← Hn.out]; omega)
          rw [← Hn.out, show n - 1 - (n - (q + 1)) = q by omega, show n - (q + 1) + 1 = n - q by omega] at hrs
          have Hrs := Lib.hid hrs; clear hrs
          generalize ys.getD q 0 = t at *
          go_wp2_with (at_builtin; refine wpList_append_own _ rfl _ _ 22 rfl w2.heap.size 2 i0 (.int .i64 0) 1 8 Try.underlying22 hi hz0 hz1 hz2 rfl (by decide) _ _ _ rfl (hown.alloc _) ⟨wr.heap.size, 0, none⟩ 1 1 [.int .i64 t] rfl rfl ?e1 ?e2 ?e3 ?e4 ?e5 ?_)
          case e1 => exact cell_one_new _ _ _
          case e2 => intro u hu; simp at hu; subst hu; rfl
          case e3 => unfold maxLen; omega
          case e4 => omega
          case e5 => have := hbr.size; simp; omega
          intro v' w3 hown' hgrow _
          have hb4 : Below w2.heap.size w2 w3 := (hbr.alloc hbr.size _).grown hgrow (by have := hbr.size; simp; omega) (fun j hj => (hown.lt j hj).1)
          have hown3 : w3.ownsRow w2.heap.size 2 1 v' (n - q) ((ys.reverse.take (n - q)).map (Value.int .i64)) := by
            rw [Hrs.out]
            have e : n - (q + 1) + 1 = n - q := by omega
            rw [e] at hown'
            simpa using hown'
          clear hown' hgrow hown
          go_wp2_with fail
          go_roundg q
          case measure => omega
          case rel => exact ⟨by omega, rfl, hown3, hb4⟩
        | zero =>
          rw [show (((0 : Nat) : Int) - 1) = (-1 : Int) by omega]
          rw [Nat.sub_zero] at hown
          have hyr : ys.reverse.take n = ys.reverse := by rw [Hn.out]; exact List.take_of_length_le (by simp)
          rw [hyr] at hown
          clear hyr
          obtain ⟨ar, cp2, rfl, hl2, _, hrow3⟩ := own_row hown
          clear hown
          have Hl2 := Lib.hid hl2; clear hl2
          have hUr := untilR_reverse t0 ys
          rw [HU.out] at hUr
          have HUr := Lib.hid hUr; clear hUr
          have hxr : ∀ t ∈ ys.reverse, -9223372036854775808 ≤ t ∧ t ≤ 9223372036854775807 := fun t ht => Hx1.out t (List.mem_reverse.1 ht)
          go_wp2_with (first | (go_at_call 10; refine (until_len _ _ _ _ ys.reverse _ Hl2.out (by omega) hrow3 n1 n2 hxr).mono ?_; rintro e w4 ⟨rfl, hb5⟩; rw [HUr.out]))
          have hb6 : Below w2.heap.size w2 w4 := hbr.trans (hb5.mono hbr.size)
          have Hown4 : Hid (w4.ownsRow w.heap.size 2 1 (.slice (some ⟨g, 0, none⟩) n cp) n (ys.map (Value.int .i64))) := own_below Hown2.out hb6
          have hb7 : Below w.heap.size w w4 := hb3.trans (hb6.mono hb3.size)
          clear hbr hb5 hb6 hb3 Hown2 Hrow2 hrow3 hr1 hxr HUr Hl2
          have Hrow4 := Lib.hid (row_of_own Hown4.out)
          go_loop [14, 15] (fun b j => ∃ c : Nat, c ≤ n ∧ j = .int .i64 c ∧ b = .bool ((ys.take c).any fun t => decide (0 ≤ t))) (fun _ j => n - (intOf j).toNat)
          case atStart => exact ⟨0, Nat.zero_le _, rfl, by simp⟩
          case round =>
            obtain ⟨c, hc, rfl, rfl⟩ := hrel
            by_cases hlt : c < n
            · have hcell : w4.cell? ⟨g, c, none⟩ = some (.int .i64 (ys.getD c 0)) := by
                obtain ⟨b, off, e, hc⟩ := Hrow4.out c (by rw [← Hn.out]; omega)
                simp at e; obtain ⟨rfl, rfl⟩ := e
                rw [Nat.zero_add] at hc
                exact hc
              have hany : (ys.take (c + 1)).any (fun t => decide (0 ≤ t)) = ((ys.take c).any (fun t => decide (0 ≤ t)) || decide (0 ≤ ys.getD c 0)) := by
                have hl : c < ys.length := by rw [← Hn.out]; exact hlt
                rw [List.take_succ_eq_append_getElem hl, List.any_append]
                simp [hl]
              have Hany := Lib.hid hany; clear hany
              generalize ys.getD c 0 = t at *
              generalize (ys.take c).any (fun t => decide (0 ≤ t)) = B at *
              cases B with
              | true =>
                go_wp2
                go_round
                case rel => exact ⟨c + 1, by omega, by go_num, by rw [Hany.out]; rfl⟩
                case measure => simp [intOf]; omega
              | false =>
                go_wp2
                go_round
                case rel => exact ⟨c + 1, by omega, by go_num, by rw [Hany.out]; simp⟩
                case measure => simp [intOf]; omega
            · obtain rfl : c = n := by omega
              rw [show ys.take c = ys by rw [Hn.out]; exact List.take_length]
              clear hlt hc
              have hcell : w4.cell? ⟨g, i, none⟩ = some (.int .i64 (ys.getD i 0)) := by
                obtain ⟨b, off, e, hc⟩ := Hrow4.out i (by rw [← Hn.out]; omega)
                simp at e; obtain ⟨rfl, rfl⟩ := e
                rw [Nat.zero_add] at hc
                exact hc
              have hfr : w4.frozen? ⟨g, i, none⟩ = false := Hown4.out.frozenAt i
              generalize hB : ys.any (fun t => decide (0 ≤ t)) = B
              have HB := Lib.hid hB; clear hB
              generalize ht : ys.getD i 0 = t at *
              have Ht := Lib.hid ht; clear ht
              have htb : -9223372036854775808 ≤ t ∧ t ≤ 9223372036854775807 := by
                rw [← Ht.out]
                have hl : i < ys.length := by rw [← Hn.out]; exact hin
                have := Hx1.out (ys[i]) (List.getElem_mem hl)
                simpa [hl] using this
              by_cases cm : t1 ≤ t
              · have hcall := storeCall w4 w.heap.size g cp c i t0 t ys Hown4.out (by omega) n1 n2 Hx1.out (by omega)
                have hbs : Below w.heap.size w (w4.setCell ⟨g, i, none⟩ (.int .i64 t)) := hb7.setCell hg _
                have hVU : B = true → U ≤ untilR t0 (ys.set i t) := fun hB => by
                  rw [← HU.out]
                  exact untilR_mono t0 ys i t (by rw [Ht.out]; omega) ((any_pos ys).1 (HB.out.trans hB))
                generalize untilR t0 (ys.set i t) = V at hcall hVU
                have Hcall := Lib.hid hcall
                have Hbs := Lib.hid hbs
                clear hcall hbs HU Ht HB
                cases B with
                | true =>
                  have hVU2 := hVU rfl
                  clear hVU
                  go_wp2_with (first
                    | (go_at_call 10; refine Hcall.out.mono ?_; rintro e w5 ⟨rfl, hb8⟩)
                    | (go_at_call 17; refine (works_any _).mono ?_; rintro e w5 ⟨rfl, hb8⟩))
                  go_ret
                  refine retB rfl ?_
                  have HH := Hbs.out
                  repeat (first | assumption | (refine grew_trans ?_ (by assumption)))
                | false =>
                  clear hVU
                  go_wp2_with (first
                    | (go_at_call 10; refine Hcall.out.mono ?_; rintro e w5 ⟨rfl, hb8⟩)
                    | (go_at_call 17; refine (works_any _).mono ?_; rintro e w5 ⟨rfl, hb8⟩))
                  go_ret
                  refine retB rfl ?_
                  have HH := Hbs.out
                  repeat (first | assumption | (refine grew_trans ?_ (by assumption)))
              · have hcall := storeCall w4 w.heap.size g cp c i t0 t1 ys Hown4.out (by omega) n1 n2 Hx1.out (by omega)
                have hbs : Below w.heap.size w (w4.setCell ⟨g, i, none⟩ (.int .i64 t1)) := hb7.setCell hg _
                have hVU : B = true → U ≤ untilR t0 (ys.set i t1) := fun hB => by
                  rw [← HU.out]
                  exact untilR_mono t0 ys i t1 (by rw [Ht.out]; omega) ((any_pos ys).1 (HB.out.trans hB))
                generalize untilR t0 (ys.set i t1) = V at hcall hVU
                have Hcall := Lib.hid hcall
                have Hbs := Lib.hid hbs
                clear hcall hbs HU Ht HB
                cases B with
                | true =>
                  have hVU2 := hVU rfl
                  clear hVU
                  go_wp2_with (first
                    | (go_at_call 10; refine Hcall.out.mono ?_; rintro e w5 ⟨rfl, hb8⟩)
                    | (go_at_call 17; refine (works_any _).mono ?_; rintro e w5 ⟨rfl, hb8⟩))
                  go_ret
                  refine retB rfl ?_
                  have HH := Hbs.out
                  repeat (first | assumption | (refine grew_trans ?_ (by assumption)))
                | false =>
                  clear hVU
                  go_wp2_with (first
                    | (go_at_call 10; refine Hcall.out.mono ?_; rintro e w5 ⟨rfl, hb8⟩)
                    | (go_at_call 17; refine (works_any _).mono ?_; rintro e w5 ⟨rfl, hb8⟩))
                  go_ret
                  refine retB rfl ?_
                  have HH := Hbs.out
                  repeat (first | assumption | (refine grew_trans ?_ (by assumption)))
end Go.Proofs.Ytnlmgpodfmmfmaa
