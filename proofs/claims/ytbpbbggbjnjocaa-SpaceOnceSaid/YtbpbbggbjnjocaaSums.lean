/- All counts are together how many places hold a sector. -/
import Derived.Test.YtbpbbggbjnjocaaLaws
namespace Go.Proofs.Ytbpbbggbjnjocaa
open Go.RowKit Go.Joins

/-! ### Plain -/
theorem sum_set (l : List Int) : ∀ k, k < l.length → ∀ v, (l.set k v).sum = l.sum - l.getD k 0 + v := by
  induction l with
  | nil => intro k hk; simp at hk
  | cons x l ih =>
    intro k hk v
    cases k with
    | zero => simp; omega
    | succ k =>
      simp only [List.length_cons] at hk
      have := ih k (by omega) v
      simp only [List.set_cons_succ, List.sum_cons, List.getD_cons_succ]
      omega
theorem sum_nonneg {l : List Int} (h : ∀ x ∈ l, 0 ≤ x) : 0 ≤ l.sum := by
  induction l with
  | nil => simp
  | cons x l ih =>
    have := ih (fun y hy => h y (List.mem_cons_of_mem _ hy))
    have := h x (by simp)
    simp; omega
theorem sum_take_le {l : List Int} (h : ∀ x ∈ l, 0 ≤ x) (k : Nat) : (l.take k).sum ≤ l.sum := by
  have e : l.sum = (l.take k).sum + (l.drop k).sum := by
    conv => lhs; rw [← List.take_append_drop k l, List.sum_append]
  have := sum_nonneg (l := l.drop k) (fun x hx => h x (List.mem_of_mem_drop hx))
  omega
theorem sum_snoc {l : List Int} {k : Nat} (h : k < l.length) : (l.take (k + 1)).sum = (l.take k).sum + l.getD k 0 := by
  rw [take_snoc l k 0 h, List.sum_append]; simp
theorem get_le_sum {l : List Int} (h : ∀ x ∈ l, 0 ≤ x) {k : Nat} (hk : k < l.length) : 0 ≤ l.getD k 0 ∧ l.getD k 0 ≤ l.sum := by
  have h1 := sum_snoc hk
  have h2 := sum_take_le h (k + 1)
  have h3 := sum_nonneg (l := l.take k) (fun x hx => h x (List.mem_of_mem_take hx))
  have h4 : 0 ≤ l.getD k 0 := h _ (by simp [hk])
  omega
theorem cnt_sum {n : Nat} (xs : List Int) : ∀ o, xs.length ≤ 100000 → cnt n xs = some o → o.sum = (xs.length : Int) ∧ ∀ x ∈ o, 0 ≤ x := by
  suffices h : ∀ (xs : List Int) (a : List Int), a.length = n → (∀ x ∈ a, 0 ≤ x) → a.sum + (xs.length : Int) ≤ 100000 → ∀ o, xs.foldl (cstep n) (some a) = some o → o.sum = a.sum + (xs.length : Int) ∧ ∀ x ∈ o, 0 ≤ x by
    intro o hl ho
    have := h xs (List.replicate n 0) (by simp) (by intro x hx; have := List.eq_of_mem_replicate hx; omega) (by simp; omega) o ho
    simpa using this
  intro xs
  induction xs with
  | nil => intro a _ hp _ o ho; simp at ho; subst ho; exact ⟨by simp, hp⟩
  | cons x xs ih =>
    intro a ha hp hs o ho
    rw [List.foldl_cons, cstep] at ho
    split at ho
    · rw [cstep_none] at ho; cases ho
    · rename_i hx
      have hk : x.toNat < a.length := by omega
      have hg := get_le_sum hp hk
      simp only [List.length_cons, Int.natCast_add, Int.natCast_one] at hs ⊢
      have hw : wrap64 (a.getD x.toNat 0 + 1) = a.getD x.toNat 0 + 1 := IntWalk.wrap64_in _ ⟨by omega, by omega⟩
      have hsum : (bump a x).sum = a.sum + 1 := by
        unfold bump
        rw [hw, sum_set a _ hk]; omega
      have := ih (bump a x) (by rw [bump_len]; exact ha) (by
        intro y hy
        unfold bump at hy
        rw [hw] at hy
        rcases List.mem_or_eq_of_mem_set hy with h | h
        · exact hp y h
        · omega) (by rw [hsum]; omega) o ho
      rw [hsum] at this
      exact ⟨by omega, this.2⟩

/-- places that hold a sector, so far. -/
def upto (xs : List Int) : List Int := xs.take 100000
theorem upto_len (xs : List Int) : (upto xs).length ≤ 100000 := by unfold upto; simp; omega
theorem upto_all {xs : List Int} (h : (upto xs).length < 100000) : upto xs = xs := by
  unfold upto at h ⊢
  rw [List.take_of_length_le]
  simp at h; omega
theorem upto_more {xs : List Int} (h : ¬ (upto xs).length < 100000) (ys : List Int) : upto (xs ++ ys) = upto xs := by
  unfold upto at h ⊢
  rw [List.take_append_of_le_length]
  simp at h; omega
theorem upto_step {p x : List Int} {j : Nat} (hj : j < x.length) (h : (upto (p ++ x.take j)).length < 100000) : upto (p ++ x.take (j + 1)) = upto (p ++ x.take j) ++ [x.getD j 0] := by
  have e := upto_all h
  rw [e] at h ⊢
  rw [take_snoc x j 0 hj, ← List.append_assoc]
  unfold upto
  rw [List.take_of_length_le]
  simp only [List.length_append, List.length_singleton] at h ⊢
  omega
theorem flatten_step {ls : List (List Int)} {k : Nat} (h : k < ls.length) : (ls.take (k + 1)).flatten = (ls.take k).flatten ++ ls.getD k [] := by
  rw [take_snoc ls k [] h, List.flatten_append]
  simp
theorem nz_snoc (xs : List Int) (z : Int) : nz (xs ++ [z]) = if z = 0 then nz xs else nz xs ++ [z] := by
  rw [nz_append]
  by_cases h : z = 0
  · simp [h, nz]
  · simp [h, nz]
theorem nz_len (xs : List Int) : (nz xs).length ≤ xs.length := List.length_filter_le _ _
theorem counts_one (ls : List (List Int)) (n : Int) : counts [ls.flatten] n = counts ls n ∧ countsE [ls.flatten] n = countsE ls n := by
  have e : places [ls.flatten] = places ls := by simp [places]
  exact ⟨by rw [counts, counts, e], by rw [countsE, countsE, e]⟩
theorem counts_sum {ls : List (List Int)} (h : ls.flatten.length ≤ 100000) : (∀ x ∈ counts ls 1024, 0 ≤ x) ∧ (counts ls 1024).sum ≤ 100000 ∧ (countsE ls 1024 = 0 → (counts ls 1024).sum = ((nz ls.flatten).length : Int)) := by
  have hn := nz_len ls.flatten
  rw [counts, countsE, if_neg (by omega), if_neg (by omega)]
  cases hc : cnt (1024 : Int).toNat (places ls) with
  | none => simp
  | some o =>
    have := cnt_sum _ o (by unfold places; omega) hc
    simp only [Option.getD_some, Option.isSome_some, if_true]
    unfold places at this
    exact ⟨this.2, by omega, fun _ => this.1⟩

theorem imgs_just (W : World) (a : Option Addr) (cap : Nat) (xs : List Int) (n : Nat) (hn : n = xs.length) (hr : Row W a xs) : Imgs (W.alloc (.cells #[.slice a n cap] 23)) (some ⟨W.heap.size, 0, none⟩) [xs] := by
  subst hn
  refine imgs_lit _ 23 [.slice a xs.length cap] _ _ rfl rfl fun i hi => ?_
  match i, hi with
  | 0, _ => exact ⟨_, cap, rfl, hr⟩

set_option maxRecDepth 100000 in
set_option maxHeartbeats 4000000 in
theorem lawSums (a : Option Addr) (cap : Nat) (ls : List (List Int)) (w : World) (him : Imgs w a ls) (hlen : ls.length ≤ maxLen) (hls : ∀ i, (ls.getD i []).length ≤ maxLen) :
    Calls Try.prog 6 #[.slice a ls.length cap] w (RetB true w) := by
  obtain ⟨i0, hi0, hz0, hz1, hz2⟩ := info_parts info3
  go_enter Try.func6, Try.ntmps6
  go_wp2_with (first
    | (go_at_call 11; refine (works_any _).mono ?_; rintro e w1 ⟨rfl, hb1⟩; have him1 := imgs_below him hb1)
    | (go_at_call 8; refine (counts_any a cap ls 1024 _ him1 hlen hls).mono ?_; intro e w2 hp; obtain ⟨a2, c2, rfl, hr2, hb2⟩ := lpost_form hp; have him2 := imgs_below him1 hb2; clear hp))
  unfold maxLen at hlen hls
  have hb0 := grew_trans hb1 hb2
  clear hb1 hb2 him him1
  have HIM := Lib.hid him2
  have HLS := Lib.hid hls
  have HR2 := Lib.hid hr2
  clear him2 hls hr2
  go_loopg [5, 6, 7] ls.length (fun k v5 v6 v7 wr => ∃ i : Nat, i + k = ls.length ∧ v7 = .int .i64 (i : Int) ∧ Below w2.heap.size w2 wr ∧ ∃ one, one = upto (ls.take i).flatten ∧ wr.ownsRow w2.heap.size 3 1 v5 one.length (one.map (Value.int .i64)) ∧ v6 = .int .i64 ((nz one).length : Int))
  case atStart => exact ⟨0, by omega, rfl, Below.refl _ _, [], rfl, World.ownsRow_nil _ _ _ _, rfl⟩
  case round =>
    obtain ⟨i, hik, rfl, hB, one, hone, hown, rfl⟩ := hrel
    have HO := Lib.hid hone
    have hul : (one.length : Int) ≤ 100000 := by have := upto_len (ls.take i).flatten; rw [← hone] at this; omega
    clear hone
    have hnl := nz_len one
    by_cases hlt : i < ls.length
    · obtain ⟨b, off, a', cap', rfl, hc, hr⟩ := HIM.out i hlt
      obtain ⟨x, hx⟩ : ∃ x, x = ls.getD i [] := ⟨_, rfl⟩
      have hxl := HLS.out i
      rw [← hx] at hc hr hxl
      have HC0 := Lib.hid hc
      replace hc := (hB.cell (p := ⟨b, off + i, none⟩) (World.block_lt_of_cell? _ _ hc)).trans hc
      have hst : Hid ((ls.take (i + 1)).flatten = (ls.take i).flatten ++ x) := by rw [hx]; exact flatten_step hlt
      clear hx
      have HR := Lib.hid hr
      have HOWN := Lib.hid hown
      clear hr hown
      go_wp2
      go_loopg [5, 6, 8] x.length (fun k v5 v6 v8 wr => ∃ j : Nat, j + k = x.length ∧ v8 = .int .i64 (j : Int) ∧ Below w2.heap.size w2 wr ∧ ∃ one, one = upto ((ls.take i).flatten ++ x.take j) ∧ wr.ownsRow w2.heap.size 3 1 v5 one.length (one.map (Value.int .i64)) ∧ v6 = .int .i64 ((nz one).length : Int))
      case atStart => exact ⟨0, by omega, rfl, hB, one, by simpa using HO.out, HOWN.out, rfl⟩
      case round =>
        clear hc HO HOWN hul hnl
        obtain ⟨j, hjk, rfl, hB2, one2, hone2, hown2, rfl⟩ := hrel
        have HO2 := Lib.hid hone2
        have hul : (one2.length : Int) ≤ 100000 := by have := upto_len ((ls.take i).flatten ++ x.take j); rw [← hone2] at this; omega
        clear hone2
        have hnl := nz_len one2
        have hc := (hB2.cell (p := ⟨b, off + i, none⟩) (World.block_lt_of_cell? _ _ HC0.out)).trans HC0.out
        obtain ⟨va, vc, rfl, -⟩ := own_row hown2
        by_cases hlj : j < x.length
        · by_cases hful : one2.length < 100000
          · have hfi : decide ((one2.length : Int) < 100000) = true := by simp; omega
            have HF := Lib.hid hful
            obtain ⟨b1, off1, rfl, hc10⟩ := HR.out j hlj
            have hc1 := (hB2.cell (p := ⟨b1, off1 + j, none⟩) (World.block_lt_of_cell? _ _ hc10)).trans hc10
            have hs : Hid (upto ((ls.take i).flatten ++ x.take (j + 1)) = one2 ++ [x.getD j 0]) := by
              have hf := hful
              rw [HO2.out] at hf
              rw [Hid, upto_step hlj hf, ← HO2.out]
            have hnz := Lib.hid (nz_snoc one2 (x.getD j 0))
            clear hful
            have HC10 := Lib.hid hc10
            clear hc10
            generalize x.getD j 0 = z at hc1 hs hnz HC10
            have hsW := hB2.size
            by_cases hz : z = 0
            · subst hz
              rw [if_pos rfl] at hnz
              clear hnl hul
              go_wp2_with (at_builtin; refine wpList_append_own _ rfl _ _ 23 rfl w2.heap.size 3 i0 (.int .i64 0) 1 8 Try.underlying23 hi0 hz0 hz1 hz2 rfl (by decide) _ _ _ rfl (hown2.alloc _) ⟨wr.heap.size, 0, none⟩ 1 1 [.int .i64 0] rfl rfl (cell_one_new _ _ _) (by simp [Value.oneCell']) (by have := HF.out; unfold maxLen; omega) (by have := HF.out; omega) (by simp; omega) ?_; intro v' w3 hown' hgrow _; have hbn : Below w2.heap.size w2 w3 := (hB2.alloc hB2.size _).grown hgrow (by simp; omega) (fun j hj => (hown2.lt j hj).1); have hcN := (hbn.cell (p := ⟨b, off + i, none⟩) (World.block_lt_of_cell? _ _ HC0.out)).trans HC0.out; have hc1N := (hbn.cell (p := ⟨b1, off1 + j, none⟩) (World.block_lt_of_cell? _ _ HC10.out)).trans HC10.out)
              go_roundg (gk - 1)
              case measure => omega
              case rel => exact ⟨j + 1, by omega, by simp, hbn, _, hs.out.symm, by simpa using hown', by rw [hnz.out]⟩
            · have hne : (z == 0) = false := by simpa using hz
              have hne2 : (z != 0) = true := by simpa using hz
              have hnb : (nz one2).length ≤ 9223372036854775806 := by omega
              clear hnl hul
              rw [if_neg hz] at hnz
              clear hz
              go_wp2_with (at_builtin; refine wpList_append_own _ rfl _ _ 23 rfl w2.heap.size 3 i0 (.int .i64 0) 1 8 Try.underlying23 hi0 hz0 hz1 hz2 rfl (by decide) _ _ _ rfl (hown2.alloc _) ⟨wr.heap.size, 0, none⟩ 1 1 [.int .i64 z] rfl rfl (cell_one_new _ _ _) (by simp [Value.oneCell']) (by have := HF.out; unfold maxLen; omega) (by have := HF.out; omega) (by simp; omega) ?_; intro v' w3 hown' hgrow _; have hbn : Below w2.heap.size w2 w3 := (hB2.alloc hB2.size _).grown hgrow (by simp; omega) (fun j hj => (hown2.lt j hj).1); have hcN := (hbn.cell (p := ⟨b, off + i, none⟩) (World.block_lt_of_cell? _ _ HC0.out)).trans HC0.out; have hc1N := (hbn.cell (p := ⟨b1, off1 + j, none⟩) (World.block_lt_of_cell? _ _ HC10.out)).trans HC10.out)
              go_roundg (gk - 1)
              case measure => omega
              case rel => exact ⟨j + 1, by omega, by simp, hbn, _, hs.out.symm, by simpa using hown', by rw [hnz.out]; simp⟩
          · have hs : Hid (upto (ls.take (i + 1)).flatten = one2) := by
              have hf := hful
              rw [HO2.out] at hf
              rw [Hid, hst.out, HO2.out]
              have := upto_more hf (x.drop j)
              rw [List.append_assoc, List.take_append_drop] at this
              exact this
            have hfi : decide ((one2.length : Int) < 100000) = false := by simp; omega
            clear hful hul hnl
            go_wp2
            go_roundg (ls.length - (i + 1))
            case measure => omega
            case rel => exact ⟨i + 1, by omega, by simp, hB2, one2, hs.out.symm, hown2, rfl⟩
        · have hs : Hid (upto (ls.take (i + 1)).flatten = one2) := by
            rw [Hid, hst.out, HO2.out, show x.take j = x from List.take_of_length_le (by omega)]
          clear hul hnl
          go_wp2
          go_roundg (ls.length - (i + 1))
          case measure => omega
          case rel => exact ⟨i + 1, by omega, by simp, hB2, one2, hs.out.symm, hown2, rfl⟩
    · obtain ⟨va, vc, rfl, -, -, -, -, -, hrow⟩ := own_row hown
      have hs : Hid (one = upto ls.flatten) := by rw [Hid, HO.out, List.take_of_length_le (by omega)]
      by_cases hful : one.length < 100000
      · have hall : Hid (one = ls.flatten) := by
          have hf := hful
          rw [hs.out] at hf
          rw [Hid, hs.out, upto_all hf]
        have hsum := Lib.hid (counts_sum (ls := ls) (by rw [← hall.out]; omega))
        have hE1 : counts [one] 1024 = counts ls 1024 := by rw [hall.out]; exact (counts_one ls 1024).1
        have hE2 : countsE [one] 1024 = countsE ls 1024 := by rw [hall.out]; exact (counts_one ls 1024).2
        have hC8 := counts_len (some ⟨wr.heap.size, 0, none⟩) 1 1 [one] rfl 1024 (wr.alloc (.cells #[.slice va one.length vc] 23)) (imgs_just wr va vc one one.length rfl hrow) (by unfold maxLen; simp) (fun i => by
          match i with
          | 0 => unfold maxLen; simp; omega
          | _ + 1 => simp)
        rw [hE1, hE2] at hC8
        have HC8 := Lib.hid hC8
        rw [← hall.out] at hsum
        have hcl := counts_le ls 1024
        clear hE1 hE2 hC8
        generalize counts ls 1024 = C at *
        generalize countsE ls 1024 = E0 at *
        have HB := Lib.hid hB
        have hful2 : decide ((100000 : Int) ≤ (one.length : Int)) = false := by simp; omega
        clear hB hul hful hnl hrow hown
        go_wp2_with (go_at_call 8; refine HC8.out.mono ?_; intro e w3 hp; obtain ⟨a3, c3, rfl, hr3, hb3⟩ := lpost_form hp; clear hp)
        have HR3 := Lib.hid hr3
        have hwr : Below wr.heap.size wr w3 := ((Below.refl _ wr).alloc (Nat.le_refl _) _).trans (hb3.mono (by simp))
        have HR23 := Lib.hid (row_below (row_below HR2.out HB.out) hwr)
        have HBW : Hid (Below w.heap.size w w3) := (hb0.trans (HB.out.mono hb0.size)).trans (hwr.mono (Nat.le_trans hb0.size HB.out.size))
        clear hr3 hb3 hwr
        go_loopg [11, 12] C.length (fun k v11 v12 wr => ∃ i : Nat, i + k = C.length ∧ v11 = .int .i64 (C.take i).sum ∧ v12 = .int .i64 (i : Int) ∧ ∃ q, wr = w3.drewN q)
        case atStart => exact ⟨0, by omega, by simp, rfl, 0, rfl⟩
        case round =>
          obtain ⟨i, hik, rfl, rfl, q, hq⟩ := hrel
          have HQ := Lib.hid hq
          clear hq
          have hbel : Below w.heap.size w wr := by rw [HQ.out]; exact HBW.out.trans ((below_drewN' w3 q).mono HBW.out.size)
          by_cases hlt : i < C.length
          · obtain ⟨b, off, rfl, hc⟩ := HR23.out i hlt
            obtain ⟨b', off', rfl, hc'⟩ := HR3.out i hlt
            replace hc : wr.cell? ⟨b, off + i, none⟩ = some (.int .i64 (C.getD i 0)) := by rw [HQ.out]; exact hc
            replace hc' : wr.cell? ⟨b', off' + i, none⟩ = some (.int .i64 (C.getD i 0)) := by rw [HQ.out]; exact hc'
            have hs := Lib.hid (sum_snoc hlt)
            have h1 := get_le_sum hsum.out.1 hlt
            have h2 := sum_take_le hsum.out.1 i
            have h3 := sum_nonneg (l := C.take i) (fun x hx => hsum.out.1 x (List.mem_of_mem_take hx))
            have h4 := hsum.out.2.1
            generalize C.getD i 0 = z at *
            generalize (C.take i).sum = s at *
            generalize C.sum = S at *
            have h5 : s + z ≤ 9223372036854775807 := by omega
            obtain ⟨h1a, h1b⟩ := h1
            clear h2 h4 h1b
            go_wp2
            go_quiet (fail)
            go_wp2
            go_roundg (gk - 1)
            case measure => omega
            case rel => exact ⟨i + 1, by omega, by rw [hs.out], by simp, q + nq, by rw [HQ.out]; simp [World.drewN, Nat.add_assoc]⟩
          · rw [show C.take i = C from List.take_of_length_le (by omega)]
            by_cases hE : E0 = 0
            · subst hE
              have hb : (C.sum == ((nz one).length : Int)) = true := by have := hsum.out.2.2 rfl; simpa using this
              go_wp2
              go_ret
              exact retB rfl hbel
            · have hb : (E0 != 0) = true := by simpa using hE
              clear hE
              go_wp2
              go_ret
              exact retB rfl hbel
      · have hfi : decide ((100000 : Int) ≤ (one.length : Int)) = true := by simp; omega
        clear hful hul hnl
        go_wp2
        go_ret
        exact retB rfl (hb0.trans (hB.mono hb0.size))
end Go.Proofs.Ytbpbbggbjnjocaa
