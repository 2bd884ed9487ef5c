/- Whether a log may be: the callers. -/
import Derived.Test.YthfchmdfoaiibaaChk
namespace Go.Proofs.Ythfchmdfoaiibaa
open Go.RowKit Go.Joins

def sortedB (es : List Ent) : Bool := decide (∀ k, k < es.length - 1 → (es.getD k default).1 ≤ (es.getD (k + 1) default).1)
theorem sorted_no {es : List Ent} {k : Nat} (hk : k + 1 < es.length) (h : (es.getD (k + 1) default).1 < (es.getD k default).1) : sortedB es = false := by
  unfold sortedB
  rw [decide_eq_false_iff_not]
  intro hc
  have := hc k (by omega)
  omega
theorem sorted_yes {es : List Ent} (h : ∀ k, k + 1 < es.length → (es.getD k default).1 ≤ (es.getD (k + 1) default).1) : sortedB es = true := by
  unfold sortedB
  rw [decide_eq_true_eq]
  intro k hk
  exact h k (by omega)

def cmpT (x y : Int) : Int := if x < y then -1 else if y < x then 1 else 0
set_option maxRecDepth 100000 in
theorem cmp_any (x1 x2 x3 x4 y1 y2 y3 y4 : Int) (w : World) : Calls Try.prog 43 #[.agg #[.int .u64 x1, .int .i64 x2, .int .u64 x3, .int .u64 x4], .agg #[.int .u64 y1, .int .i64 y2, .int .u64 y3, .int .u64 y4]] w (RetI (cmpT x1 y1) w) := by
  have HB : Hid (∀ (o1 o2 : Obj), Below w.heap.size w ((w.alloc o1).alloc o2)) := fun o1 o2 => ((Below.refl _ w).alloc (Nat.le_refl _) o1).alloc (by simp) o2
  have hC : Hid (cmpT x1 y1 = if x1 < y1 then -1 else if y1 < x1 then 1 else 0) := rfl
  by_cases h1 : x1 < y1
  · go_enter Try.func43, Try.ntmps43
    go_wp2
    go_ret
    exact retI (by rw [hC.out, if_pos h1]) (HB.out _ _)
  · have hle : y1 ≤ x1 := by omega
    by_cases h2 : y1 < x1
    · clear h1
      go_enter Try.func43, Try.ntmps43
      go_wp2
      go_ret
      exact retI (by rw [hC.out, if_neg (by omega), if_pos h2]) (HB.out _ _)
    · have hle2 : x1 ≤ y1 := by omega
      clear h1 h2
      go_enter Try.func43, Try.ntmps43
      go_wp2
      go_ret
      exact retI (by rw [hC.out, if_neg (by omega), if_neg (by omega)]) (HB.out _ _)

set_option maxRecDepth 100000 in
set_option maxHeartbeats 1000000 in
theorem sorted_any (a : Option Addr) (cap : Nat) (es : List Ent) (w : World) (hE : Ents w a es) (hlen : es.length ≤ maxLen) :
    Calls Try.prog 42 #[.slice a es.length cap, .func (.func 43) #[] #[]] w (RetB (sortedB es) w) := by
  unfold maxLen at hlen
  have HE := Lib.hid hE
  clear hE
  go_enter Try.func42, Try.ntmps42
  go_wp2
  go_loopg [5] (es.length - 1) (fun k v5 wr => ∃ i : Int, v5 = .int .i64 i ∧ -1 ≤ i ∧ i ≤ es.length - 1 ∧ i.toNat ≤ k ∧ (∀ j : Nat, i ≤ (j : Int) → j + 1 < es.length → (es.getD j default).1 ≤ (es.getD (j + 1) default).1) ∧ Below w.heap.size w wr)
  case atStart => exact ⟨(es.length : Int) - 1, rfl, by omega, by omega, by omega, fun j h1 h2 => by omega, Below.refl _ _⟩
  case round =>
    obtain ⟨i, rfl, hi0, hi1, hik, hall, hB⟩ := hrel
    have HALL := Lib.hid hall
    clear hall
    by_cases hpos : 0 < i
    · obtain ⟨m, rfl⟩ : ∃ m : Nat, i = ((m + 1 : Nat) : Int) := ⟨i.toNat - 1, by omega⟩
      have hm : m + 1 < es.length := by omega
      obtain ⟨b, off, rfl, g⟩ := HE.out (m + 1) hm
      obtain ⟨b', off', e', g'⟩ := HE.out m (by omega)
      simp at e'
      obtain ⟨rfl, rfl⟩ := e'
      replace g := ec_below g hB
      replace g' := ec_below g' hB
      have HG : Hid (((es.getD (m + 1) default).1 < (es.getD m default).1 → sortedB es = false)) := fun h => sorted_no hm h
      have HP : Hid ((es.getD m default).1 ≤ (es.getD (m + 1) default).1 → ∀ j : Nat, (m : Int) ≤ (j : Int) → j + 1 < es.length → (es.getD j default).1 ≤ (es.getD (j + 1) default).1) := fun h j h1 h2 => by
        by_cases e : j = m
        · subst e; exact h
        · exact HALL.out j (by omega) h2
      generalize es.getD (m + 1) default = x at *
      generalize es.getD m default = y at *
      obtain ⟨x1, x2, x3, x4⟩ := x
      obtain ⟨y1, y2, y3, y4⟩ := y
      obtain ⟨g1, g2, g3, g4⟩ := g
      obtain ⟨g1', g2', g3', g4'⟩ := g'
      simp only at g1 g2 g3 g4 g1' g2' g3' g4' HG HP
      go_wp2
      have j1 : (m : Int) + 1 < (es.length : Int) := by omega
      have j2 : (0 : Int) ≤ (m : Int) + 1 := by omega
      have j3 : ((m : Int) + 1).toNat = m + 1 := by omega
      have j4 : IntKind.i64.wrap (m : Int) = (m : Int) := IntWalk.i64_in _ (by omega)
      have j5 : (m : Int) < (es.length : Int) := by omega
      go_still_tail 10, (by kernel_rfl)
      clear j3 j4
      change wpList _ _ _ _ _ wr.drew
      by_cases hlt : x1 < y1
      · have HS := Lib.hid (HG.out hlt)
        have hc : decide (cmpT x1 y1 < 0) = true := by unfold cmpT; rw [if_pos hlt]; decide
        clear hlt
        go_wp2_with (go_at_call 43; refine (cmp_any _ _ _ _ _ _ _ _ _).mono ?_; rintro e w3 ⟨rfl, hb3⟩)
        go_ret
        exact retB HS.out.symm (hB.trans (((Below.refl _ wr).drew.trans hb3).mono hB.size))
      · have HS := Lib.hid (HP.out (by omega))
        have hc : decide (cmpT x1 y1 < 0) = false := by unfold cmpT; rw [if_neg hlt]; split <;> decide
        clear hlt
        go_wp2_with (go_at_call 43; refine (cmp_any _ _ _ _ _ _ _ _ _).mono ?_; rintro e w3 ⟨rfl, hb3⟩)
        go_roundg (gk - 1)
        case measure => omega
        case rel => exact ⟨(m : Int), rfl, by omega, by omega, by omega, HS.out, hB.trans (((Below.refl _ wr).drew.trans hb3).mono hB.size)⟩
    · have HS : Hid (sortedB es = true) := sorted_yes (fun k hk => HALL.out k (by omega) hk)
      have hle : i ≤ 0 := by omega
      clear hpos
      go_wp2
      go_ret
      exact retB HS.out.symm hB

/-- where the first one lies that may not be: not below 0, if there is one. -/
def BadPost (es : List Ent) (w : World) (e : Ending) (w' : World) : Prop := ∃ n : Int, e = .returned (.int .i64 n) ∧ decide (0 ≤ n) = (!es.all okE) ∧ Below w.heap.size w w'
theorem all_take {es : List Ent} {i : Nat} (hi : i < es.length) (h : (es.take i).all okE = true) (hx : okE (es.getD i default) = true) : (es.take (i + 1)).all okE = true := by
  rw [take_snoc es i default hi, List.all_append, h]; simp only [List.all_cons, List.all_nil, hx]; rfl
theorem all_not {es : List Ent} {i : Nat} (hi : i < es.length) (hx : okE (es.getD i default) = false) : es.all okE = false := by
  rw [List.all_eq_false]
  exact ⟨es.getD i default, by simp [hi], by rw [hx]; simp⟩
set_option maxRecDepth 100000 in
set_option maxHeartbeats 1000000 in
theorem index_any (a : Option Addr) (cap : Nat) (es : List Ent) (w : World) (hE : Ents w a es) (hlen : es.length ≤ maxLen) (hwf : ∀ i, i < es.length → wfE (es.getD i default)) :
    Calls Try.prog 48 #[.slice a es.length cap, .func (.func 45) #[] #[]] w (BadPost es w) := by
  unfold maxLen at hlen
  have HE := Lib.hid hE
  have HW := Lib.hid hwf
  clear hE hwf
  go_enter Try.func48, Try.ntmps48
  go_wp2
  go_loopg [5, 8] es.length (fun k v5 v8 wr => ∃ i : Nat, i + k = es.length ∧ v8 = .int .i64 (i : Int) ∧ (es.take i).all okE = true ∧ Below w.heap.size w wr)
  case atStart => exact ⟨0, by omega, rfl, rfl, Below.refl _ _⟩
  case round =>
    obtain ⟨i, hik, rfl, hall, hB⟩ := hrel
    have HALL := Lib.hid hall
    clear hall
    by_cases hlt : i < es.length
    · obtain ⟨b, off, rfl, g⟩ := HE.out i hlt
      replace g := ec_below g hB
      have hx := HW.out i hlt
      have HY : Hid (okE (es.getD i default) = true → (es.take (i + 1)).all okE = true) := fun h => all_take hlt HALL.out h
      have HN : Hid (okE (es.getD i default) = false → es.all okE = false) := fun h => all_not hlt h
      generalize es.getD i default = x at *
      obtain ⟨x1, x2, x3, x4⟩ := x
      obtain ⟨g1, g2, g3, g4⟩ := g
      simp only at g1 g2 g3 g4
      have hwr := Lib.hid (wrong_any x1 x2 x3 x4 wr hx)
      clear hx
      cases hok : okE (x1, x2, x3, x4) with
      | true =>
        have HS := Lib.hid (HY.out hok)
        rw [hok] at hwr
        clear hok
        go_wp2_with (go_at_call 45; refine hwr.out.mono ?_; rintro e w3 ⟨rfl, hb3⟩)
        go_roundg (gk - 1)
        case measure => omega
        case rel => exact ⟨i + 1, by omega, by simp, HS.out, hB.trans (hb3.mono hB.size)⟩
      | false =>
        have HS := Lib.hid (HN.out hok)
        rw [hok] at hwr
        clear hok
        go_wp2_with (go_at_call 45; refine hwr.out.mono ?_; rintro e w3 ⟨rfl, hb3⟩)
        go_ret
        exact ⟨_, rfl, by rw [HS.out]; simp, hB.trans (hb3.mono hB.size)⟩
    · have HS : Hid (es.all okE = true) := by
        have := HALL.out
        rw [List.take_of_length_le (by omega)] at this
        exact this
      go_wp2
      go_ret
      exact ⟨_, rfl, by rw [HS.out]; decide, hB⟩
set_option maxRecDepth 100000 in
theorem contains_any (a : Option Addr) (cap : Nat) (es : List Ent) (w : World) (hE : Ents w a es) (hlen : es.length ≤ maxLen) (hwf : ∀ i, i < es.length → wfE (es.getD i default)) :
    Calls Try.prog 44 #[.slice a es.length cap, .func (.func 45) #[] #[]] w (RetB (!es.all okE) w) := by
  have hi := Lib.hid (index_any a cap es w hE hlen hwf)
  clear hE hwf hlen
  go_enter Try.func44, Try.ntmps44
  go_wp2_with (go_at_call 48; refine hi.out.mono ?_; rintro e w3 ⟨n, rfl, hn, hb3⟩; have HN := Lib.hid hn; clear hn)
  go_ret
  exact retB HN.out hb3

def checkE (es : List Ent) : Int := if 300 < es.length then 3 else if sortedB es && es.all okE then 0 else 2
set_option maxRecDepth 100000 in
set_option maxHeartbeats 1000000 in
theorem check_any (a : Option Addr) (cap : Nat) (es : List Ent) (w : World) (hE : Ents w a es) (hlen : es.length ≤ maxLen) (hwf : ∀ i, i < es.length → wfE (es.getD i default)) :
    Calls Try.prog 24 #[.slice a es.length cap] w (RetI (checkE es) w) := by
  by_cases hl : 300 < es.length
  · have hC : Hid (3 = checkE es) := by rw [Hid, checkE, if_pos hl]
    have hli : (300 : Int) < (es.length : Int) := by omega
    clear hl hE hwf hlen
    go_enter Try.func24, Try.ntmps24
    go_wp2
    go_ret
    exact retI hC.out (Below.refl _ _)
  · have hC : Hid (checkE es = if sortedB es && es.all okE then 0 else 2) := by rw [Hid, checkE, if_neg hl]
    have hs := Lib.hid (sorted_any a cap es w hE hlen)
    have HE := Lib.hid hE
    have HW := Lib.hid hwf
    have HL := Lib.hid hlen
    have hli : (es.length : Int) ≤ 300 := by omega
    clear hl hE hwf hlen
    cases h1 : sortedB es with
    | false =>
      rw [h1] at hs hC
      clear h1
      go_enter Try.func24, Try.ntmps24
      go_wp2_with (go_at_call 42; refine hs.out.mono ?_; rintro e w3 ⟨rfl, hb3⟩)
      go_ret
      exact retI (by rw [hC.out]; rfl) hb3
    | true =>
      rw [h1] at hs hC
      clear h1
      have hc : Hid (∀ w3, Ents w3 a es → Calls Try.prog 44 #[.slice a es.length cap, .func (.func 45) #[] #[]] w3 (RetB (!es.all okE) w3)) := fun w3 hE3 => contains_any a cap es w3 hE3 HL.out HW.out
      cases h2 : es.all okE with
      | false =>
        rw [h2] at hc hC
        clear h2
        go_enter Try.func24, Try.ntmps24
        go_wp2_with (first | (go_at_call 42; refine hs.out.mono ?_; rintro e w3 ⟨rfl, hb3⟩) | (go_at_call 44; refine (hc.out _ (ents_below HE.out hb3)).mono ?_; rintro e w4 ⟨rfl, hb4⟩))
        go_ret
        exact retI (by rw [hC.out]; rfl) (grew_trans hb3 hb4)
      | true =>
        rw [h2] at hc hC
        clear h2
        go_enter Try.func24, Try.ntmps24
        go_wp2_with (first | (go_at_call 42; refine hs.out.mono ?_; rintro e w3 ⟨rfl, hb3⟩) | (go_at_call 44; refine (hc.out _ (ents_below HE.out hb3)).mono ?_; rintro e w4 ⟨rfl, hb4⟩))
        go_ret
        exact retI (by rw [hC.out]; rfl) (grew_trans hb3 hb4)
end Go.Proofs.Ythfchmdfoaiibaa
