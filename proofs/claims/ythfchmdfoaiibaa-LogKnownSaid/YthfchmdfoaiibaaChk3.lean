/- Whether a log may be: the document's answer. -/
import Derived.Test.YthfchmdfoaiibaaChk2
import Derived.Test.YthfchmdfoaiibaaLater
namespace Go.Proofs.Ythfchmdfoaiibaa
open Go.RowKit Go.Joins

theorem all_of {es : List Ent} (h : ∀ i, i < es.length → okE (es.getD i default) = true) : es.all okE = true := by
  rw [List.all_eq_true]
  intro x hx
  obtain ⟨i, hi, rfl⟩ := List.getElem_of_mem hx
  have := h i hi
  simpa [hi] using this

set_option maxRecDepth 100000 in
set_option maxHeartbeats 4000000 in
theorem rcheck_any (a : Option Addr) (cap : Nat) (es : List Ent) (w : World) (hE : Ents w a es) (hlen : es.length ≤ maxLen) (hwf : ∀ i, i < es.length → wfE (es.getD i default)) :
    Calls Try.prog 27 #[.slice a es.length cap] w (RetI (checkE es) w) := by
  unfold maxLen at hlen
  by_cases hl : 300 < es.length
  · have hC : Hid (3 = checkE es) := by rw [Hid, checkE, if_pos hl]
    have hli : (300 : Int) < (es.length : Int) := by omega
    clear hl hE hwf hlen
    go_enter Try.func27, Try.ntmps27
    go_wp2
    go_ret
    exact retI hC.out (Below.refl _ _)
  · have hC : Hid (checkE es = if sortedB es && es.all okE then 0 else 2) := by rw [Hid, checkE, if_neg hl]
    have HE := Lib.hid hE
    have HW := Lib.hid hwf
    have hli : (es.length : Int) ≤ 300 := by omega
    clear hl hE hwf
    go_enter Try.func27, Try.ntmps27
    go_wp2
    go_loopg [3] es.length (fun k v3 wr => ∃ i : Nat, i + k = es.length ∧ v3 = .int .i64 (i : Int) ∧ (∀ j, j < i → okE (es.getD j default) = true) ∧ (∀ j, j + 1 < i → (es.getD j default).1 ≤ (es.getD (j + 1) default).1) ∧ Below w.heap.size w wr)
    case atStart => exact ⟨0, by omega, rfl, fun j hj => by omega, fun j hj => by omega, Below.refl _ _⟩
    case round =>
      obtain ⟨i, hik, rfl, hall, hsrt, hB⟩ := hrel
      have HALL := Lib.hid hall
      have HSRT := Lib.hid hsrt
      clear hall hsrt
      by_cases hlt : i < es.length
      · obtain ⟨b, off, rfl, g⟩ := HE.out i hlt
        replace g := ec_below g hB
        have hx := HW.out i hlt
        have HN : Hid (okE (es.getD i default) = false → 2 = checkE es) := fun h => by rw [hC.out, all_not hlt h]; simp
        have HY : Hid (okE (es.getD i default) = true → ∀ j, j < i + 1 → okE (es.getD j default) = true) := fun h j hj => by
          by_cases e : j = i
          · subst e; exact h
          · exact HALL.out j (by omega)
        have HT : Hid (∀ m, i = m + 1 → (es.getD i default).1 < (es.getD m default).1 → 2 = checkE es) := fun m hm h => by
          subst hm
          rw [hC.out, sorted_no hlt h]; simp
        have HU : Hid ((∀ m, i = m + 1 → (es.getD m default).1 ≤ (es.getD i default).1) → ∀ j, j + 1 < i + 1 → (es.getD j default).1 ≤ (es.getD (j + 1) default).1) := fun h j hj => by
          by_cases e : j + 1 = i
          · subst e; exact h j rfl
          · exact HSRT.out j (by omega)
        obtain ⟨x, hxx⟩ : ∃ x, x = es.getD i default := ⟨_, rfl⟩
        rw [← hxx] at g hx HN HY HT HU
        have HXX := Lib.hid hxx
        clear hxx
        obtain ⟨x1, x2, x3, x4⟩ := x
        obtain ⟨g1, g2, g3, g4⟩ := g
        simp only at g1 g2 g3 g4 HT HU
        have HK : Hid (∀ y : Later wr, Calls Try.prog 46 #[.agg #[.int .u64 x1, .int .i64 x2, .int .u64 x3, .int .u64 x4]] y.w (RetB (okE (x1, x2, x3, x4)) y.w)) := fun y => entry_any x1 x2 x3 x4 y.w hx
        have l1 := fun y : Later wr => y.cell g1
        have l2 := fun y : Later wr => y.cell g2
        have l3 := fun y : Later wr => y.cell g3
        have l4 := fun y : Later wr => y.cell g4
        clear hx
        cases hok : okE (x1, x2, x3, x4) with
        | false =>
          have HS := Lib.hid (HN.out hok)
          rw [hok] at HK
          clear hok
          go_wp2
          refine wp_region_later_lit (by kernel_rfl) (by kernel_rfl) ?_
          repeat (any_goals (first | go_big_quiet_step ((go_at_call 46; exact Calls.laterB (HK.out _))) | quiet_step ((go_at_call 46; exact Calls.laterB (HK.out _)))))
          refine wpQuiet_nil ?_
          intro _ hw'
          obtain ⟨y, hw''⟩ := hw'
          subst hw''
          have hy := y.h
          generalize y.w = wy at hy ⊢
          go_wp2
          go_ret
          exact retI HS.out (hB.trans (hy.mono hB.size))
        | true =>
          have HS := Lib.hid (HY.out hok)
          rw [hok] at HK
          clear hok
          cases i with
          | zero =>
            have HV := Lib.hid (HU.out (fun m hm => by omega))
            simp only [Nat.zero_mul, Nat.add_zero] at l1 l2 l3 l4
            go_wp2
            refine wp_region_later_lit (by kernel_rfl) (by kernel_rfl) ?_
            repeat (any_goals (first | go_big_quiet_step ((go_at_call 46; exact Calls.laterB (HK.out _))) | quiet_step ((go_at_call 46; exact Calls.laterB (HK.out _)))))
            refine wpQuiet_nil ?_
            intro _ hw'
            obtain ⟨y, hw''⟩ := hw'
            subst hw''
            have hy := y.h
            generalize y.w = wy at hy ⊢
            go_wp2
            go_roundg (gk - 1)
            case measure => omega
            case rel => exact ⟨1, by omega, by simp, HS.out, HV.out, hB.trans (hy.mono hB.size)⟩
          | succ m =>
            obtain ⟨b', off', e', g', -⟩ := HE.out m (by omega)
            simp at e'
            obtain ⟨rfl, rfl⟩ := e'
            replace g' := (hB.cell (p := ⟨b, off + m * 4, none⟩) (World.block_lt_of_cell? _ _ g')).trans g'
            have HT2 : Hid (x1 < (es.getD m default).1 → 2 = checkE es) := fun h => HT.out m rfl h
            have HU2 : Hid ((es.getD m default).1 ≤ x1 → ∀ j, j + 1 < m + 1 + 1 → (es.getD j default).1 ≤ (es.getD (j + 1) default).1) := fun h => HU.out (fun m' hm' => by rw [show m' = m by omega]; exact h)
            generalize (es.getD m default).1 = y1 at g' HT2 HU2
            have l5 := fun y : Later wr => y.cell g'
            have j1 : (m : Int) + 1 < (es.length : Int) := by omega
            have j2 : (0 : Int) ≤ (m : Int) + 1 := by omega
            have j3 : ((m : Int) + 1).toNat = m + 1 := by omega
            have j4 : IntKind.i64.wrap (m : Int) = (m : Int) := IntWalk.i64_in _ (by omega)
            have j5 : (m : Int) < (es.length : Int) := by omega
            have j6 : decide ((0 : Int) < (m : Int) + 1) = true := by simp
            by_cases hlt2 : x1 < y1
            · have HV := Lib.hid (HT2.out hlt2)
              have hd : decide (x1 < y1) = true := by simpa using hlt2
              clear hlt2
              go_wp2
              refine wp_region_later_lit (by kernel_rfl) (by kernel_rfl) ?_
              repeat (any_goals (first | go_big_quiet_step ((go_at_call 46; exact Calls.laterB (HK.out _))) | quiet_step ((go_at_call 46; exact Calls.laterB (HK.out _)))))
              refine wpQuiet_nil ?_
              intro _ hw'
              obtain ⟨y, hw''⟩ := hw'
              subst hw''
              have hy := y.h
              generalize y.w = wy at hy ⊢
              go_wp2
              go_ret
              exact retI HV.out (hB.trans (hy.mono hB.size))
            · have HV := Lib.hid (HU2.out (by omega))
              have hd : decide (x1 < y1) = false := by simpa using hlt2
              clear hlt2
              go_wp2
              refine wp_region_later_lit (by kernel_rfl) (by kernel_rfl) ?_
              repeat (any_goals (first | go_big_quiet_step ((go_at_call 46; exact Calls.laterB (HK.out _))) | quiet_step ((go_at_call 46; exact Calls.laterB (HK.out _)))))
              refine wpQuiet_nil ?_
              intro _ hw'
              obtain ⟨y, hw''⟩ := hw'
              subst hw''
              have hy := y.h
              generalize y.w = wy at hy ⊢
              go_wp2
              go_roundg (gk - 1)
              case measure => omega
              case rel => exact ⟨m + 1 + 1, by omega, by simp, HS.out, HV.out, hB.trans (hy.mono hB.size)⟩
      · have HS : Hid (0 = checkE es) := by
          rw [Hid, hC.out, sorted_yes (fun k hk => HSRT.out k (by omega)), all_of (fun k hk => HALL.out k (by omega))]; rfl
        go_wp2
        go_ret
        exact retI HS.out hB
end Go.Proofs.Ythfchmdfoaiibaa
