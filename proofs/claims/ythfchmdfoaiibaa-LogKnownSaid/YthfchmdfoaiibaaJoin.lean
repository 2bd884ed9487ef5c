/- Entries laid behind a number. -/
import Derived.Test.YthfchmdfoaiibaaCat2
import Derived.Test.YthfchmdfoaiibaaLater
namespace Go.Proofs.Ythfchmdfoaiibaa
open Go.RowKit Go.Joins

/-! ### Plain -/
/-- how many entries are of the same terms, one by one. -/
def com : List Ent → List Ent → Nat
  | x :: xs, y :: ys => if x.1 = y.1 then com xs ys + 1 else 0
  | _, _ => 0
theorem com_iff (xs ys : List Ent) : ∀ i, i ≤ com xs ys ↔ i ≤ xs.length ∧ i ≤ ys.length ∧ ∀ j, j < i → (xs.getD j default).1 = (ys.getD j default).1 := by
  induction xs generalizing ys with
  | nil => intro i; simp [com]; intro h; subst h; simp
  | cons x xs ih =>
    intro i
    cases ys with
    | nil =>
      simp [com]
      constructor
      · intro h; subst h; simp
      · intro h; exact h.2.1
    | cons y ys =>
      simp only [com]
      cases i with
      | zero => simp
      | succ i =>
        split
        · rename_i he
          rw [Nat.succ_le_succ_iff, ih]
          simp only [List.length_cons, Nat.succ_le_succ_iff]
          constructor
          · rintro ⟨h1, h2, h3⟩
            refine ⟨h1, h2, fun j hj => ?_⟩
            cases j with
            | zero => simpa using he
            | succ j => simpa using h3 j (by omega)
          · rintro ⟨h1, h2, h3⟩
            refine ⟨h1, h2, fun j hj => ?_⟩
            simpa using h3 (j + 1) (by omega)
        · rename_i he
          constructor
          · intro h; omega
          · rintro ⟨_, _, h3⟩
            exact absurd (by simpa using h3 0 (by omega)) he
theorem com_stop {xs ys : List Ent} {i : Nat} (h : i ≤ com xs ys) (hs : xs.length ≤ i ∨ (xs.getD i default).1 ≠ (ys.getD i default).1) : com xs ys = i := by
  have hn : ¬ i + 1 ≤ com xs ys := by
    rw [com_iff]
    rintro ⟨h1, h2, h3⟩
    rcases hs with h | h
    · omega
    · exact h (h3 i (by omega))
  omega
theorem com_go {xs ys : List Ent} {i : Nat} (h : i ≤ com xs ys) (hx : i < xs.length) (hi : i < ys.length) (hs : (xs.getD i default).1 = (ys.getD i default).1) : i + 1 ≤ com xs ys := by
  rw [com_iff] at h ⊢
  refine ⟨by omega, by omega, fun j hj => ?_⟩
  by_cases e : j = i
  · subst e; exact hs
  · exact h.2.2 j (by omega)
def joinL (es : List Ent) (prev : Int) (more : List Ent) : List Ent :=
  if prev < 0 ∨ (es.length : Int) < prev then es
  else if com (es.drop prev.toNat) more = more.length then es else es.take (prev.toNat + com (es.drop prev.toNat) more) ++ more.drop (com (es.drop prev.toNat) more)

theorem ents_drop {w : World} {b off : Nat} {es : List Ent} (h : Ents w (some ⟨b, off, none⟩) es) (p : Nat) : Ents w (some ⟨b, off + p * 4, none⟩) (es.drop p) := by
  intro i hi
  simp only [List.length_drop] at hi
  obtain ⟨b', off', e, hc⟩ := h (p + i) (by omega)
  simp at e
  obtain ⟨rfl, rfl⟩ := e
  refine ⟨b, _, rfl, ?_⟩
  rw [show (es.drop p).getD i default = es.getD (p + i) default by simp [List.getD]]
  rw [show off + p * 4 + i * 4 = off + (p + i) * 4 by omega]
  exact hc
theorem size33 (w : World) : (Go.sizeOf 33).run Try.prog w = .ok 4 w := by kernel_rfl
theorem tail_sl {w : World} {a : Option Addr} {cap : Nat} {es : List Ent} (h : Sl w a cap es) (p : Nat) (hp : p ≤ es.length) :
    ∃ A C, (∀ W, (Instr.slice 22 (.slice a es.length cap) (some (.int .i64 (p : Int))) none none).run Try.prog W = .ok (.slice A (es.length - p) C) W) ∧ Sl w A C (es.drop p) := by
  have ht' : Try.prog.underlying 22 = some (.slice (Try.prog.elem 22)) := by kernel_rfl
  have he : Try.prog.elem 22 = 33 := by kernel_rfl
  have hlen := h.len
  have hcm := h.capm
  by_cases hc : cap = p
  · have h0 : es.drop p = [] := List.eq_nil_of_length_eq_zero (by simp; omega)
    refine ⟨a, 0, fun W => ?_, ?_⟩
    · rw [run_slice_l W 22 _ _ _ ht' .i64 _ (by omega) (by omega), he, size33]
      simp only [Result.andThen, sliced, Int.toNat_natCast]
      subst hc
      cases a <;> simp
    · rw [h0]
      exact ⟨fun i hi => by simp at hi, fun _ => rfl, Nat.zero_le _, Nat.zero_le _, h.plain⟩
  · cases a with
    | none => have := h.nil0 rfl; omega
    | some ad =>
      obtain ⟨b, off, rfl⟩ := h.plain ad rfl
      refine ⟨some ⟨b, off + p * 4, none⟩, cap - p, fun W => ?_, ⟨ents_drop h.ents p, by simp, by simp; omega, by omega, fun ad e => by simp at e; exact ⟨_, _, e.symm⟩⟩⟩
      rw [run_slice_l W 22 _ _ _ ht' .i64 _ (by omega) (by omega), he, size33]
      simp only [Result.andThen, sliced, Int.toNat_natCast]
      simp [hc, Addr.add]
      try (intro h0; subst h0; simp)
theorem concat_len (b o n1 n2 : Nat) (a1 a2 : Option Addr) (c1 c2 : Nat) (xs ys : List Ent) (h1 : xs.length = n1) (h2 : ys.length = n2) (w : World) (hx : Sl w a1 c1 xs) (hy : Sl w a2 c2 ys)
    (k1 : w.cell? ⟨b, o, none⟩ = some (.slice a1 n1 c1)) (k2 : w.cell? ⟨b, o + 1, none⟩ = some (.slice a2 n2 c2)) (hb : (xs.length + ys.length) * 32 ≤ 140737488355328) :
    Calls Try.prog 37 #[.slice (some ⟨b, o, none⟩) 2 2] w (OwnPost (xs ++ ys) w) := by
  subst h1 h2; exact concat_any b o a1 a2 c1 c2 xs ys w hx hy k1 k2 hb
/-- two slices, just laid side by side. -/
theorem concat_new (n1 n2 : Nat) (t : TypeId) (a1 a2 : Option Addr) (c1 c2 : Nat) (xs ys : List Ent) (h1 : xs.length = n1) (h2 : ys.length = n2) (w : World) (hx : Sl w a1 c1 xs) (hy : Sl w a2 c2 ys) (hb : (n1 + n2) * 32 ≤ 140737488355328) :
    Calls Try.prog 37 #[.slice (some ⟨w.heap.size, 0, none⟩) 2 2] (w.alloc (.cells #[.slice a1 n1 c1, .slice a2 n2 c2] t)) (OwnPost (xs ++ ys) (w.alloc (.cells #[.slice a1 n1 c1, .slice a2 n2 c2] t))) := by
  have hB : Below w.heap.size w (w.alloc (.cells #[.slice a1 n1 c1, .slice a2 n2 c2] t)) := (Below.refl _ w).alloc (Nat.le_refl _) _
  exact concat_len w.heap.size 0 n1 n2 a1 a2 c1 c2 xs ys h1 h2 _ (hx.below hB) (hy.below hB) (World.cell?_alloc_at _ _ _ _ rfl) (World.cell?_alloc_at _ _ _ _ rfl) (by omega)

set_option maxRecDepth 100000 in
set_option maxHeartbeats 4000000 in
theorem join_any (a b : Option Addr) (c d : Nat) (es more : List Ent) (prev : Int) (w : World) (hl : Sl w a c es) (hm : Sl w b d more) (hb : (es.length + more.length) * 32 ≤ 140737488355328) :
    Calls Try.prog 17 #[.slice a es.length c, .int .i64 prev, .slice b more.length d] w (OwnPost (joinL es prev more) w) := by
  have HL := Lib.hid hl
  have HM := Lib.hid hm
  have hll := hl.len
  have hlc := hl.capm
  have hml := hm.len
  have hmc := hm.capm
  unfold maxLen at hlc hmc
  have hcl : Hid (∀ w1, Below w.heap.size w w1 → Calls Try.prog 36 #[.slice a es.length c] w1 (OwnPost es w1)) := fun w1 hb1 => clone_any a c es w1 (HL.out.below hb1) (by omega)
  clear hl hm
  by_cases hbad : prev < 0 ∨ (es.length : Int) < prev
  · have hJ : Hid (joinL es prev more = es) := if_pos hbad
    by_cases h0 : prev < 0
    · clear hbad
      go_enter Try.func17, Try.ntmps17
      go_wp2_with (go_at_call 36; refine (hcl.out _ (Below.refl _ _)).mono ?_; rintro e w1 ⟨v, rfl, ho, hb1⟩)
      go_ret
      exact ⟨_, rfl, by rw [hJ.out]; exact ho, hb1⟩
    · have h1 : (es.length : Int) < prev := by omega
      have h2 : 0 ≤ prev := by omega
      clear hbad h0
      go_enter Try.func17, Try.ntmps17
      go_wp2_with (go_at_call 36; refine (hcl.out _ (Below.refl _ _)).mono ?_; rintro e w1 ⟨v, rfl, ho, hb1⟩)
      go_ret
      exact ⟨_, rfl, by rw [hJ.out]; exact ho, hb1⟩
  · obtain ⟨p, rfl⟩ := Int.eq_ofNat_of_zero_le (show 0 ≤ prev by omega)
    have hp : p ≤ es.length := by omega
    have hpi : (p : Int) ≤ (es.length : Int) := by omega
    have hJ : Hid (joinL es (p : Int) more = if com (es.drop p) more = more.length then es else es.take (p + com (es.drop p) more) ++ more.drop (com (es.drop p) more)) := by
      rw [Hid, joinL, if_neg hbad, Int.toNat_natCast]
    obtain ⟨A, C, hA, hS⟩ := tail_sl HL.out p hp
    have HS := Lib.hid hS
    have hdl : (es.drop p).length = es.length - p := by simp
    have HDL := Lib.hid hdl
    clear hS hbad hdl
    have hd1 : decide ((p : Int) < 0) = false := by simp
    have hd2 : decide (es.length < p) = false := by simp; omega
    go_enter Try.func17, Try.ntmps17
    go_wp2
    obtain ⟨L, hL⟩ : ∃ L, es.length - p = L := ⟨_, rfl⟩
    rw [hL] at hA HDL
    simp only [hL]
    have HLL := Lib.hid hL
    clear hL
    go_loopg [8, 9, 25] more.length (fun k v8 v9 v25 wr => ∃ i : Nat, i + k = more.length ∧ v25 = .int .i64 (i : Int) ∧ i ≤ com (es.drop p) more ∧ Below w.heap.size w wr)
    case atStart => exact ⟨0, by omega, rfl, Nat.zero_le _, Below.refl _ _⟩
    case round =>
      obtain ⟨i, hik, rfl, hcom, hB⟩ := hrel
      have HC := Lib.hid hcom
      clear hcom
      by_cases hlt : i < more.length
      · have hy := (HM.out.below hB).ents i hlt
        obtain ⟨b', off', rfl, g⟩ := hy
        generalize hyy : more.getD i default = y at g
        have HYY := Lib.hid hyy
        clear hyy
        obtain ⟨y1, y2, y3, y4⟩ := y
        obtain ⟨g1, g2, g3, g4⟩ := g
        simp only at g1 g2 g3 g4
        have HB := Lib.hid hB
        clear hB
        go_wp2
        have hbW : Below w.heap.size w (wr.alloc (.cells #[.int .u64 y1, .int .i64 y2, .int .u64 y3, .int .u64 y4] 33)) := HB.out.alloc HB.out.size _
        have cY : (wr.alloc (.cells #[.int .u64 y1, .int .i64 y2, .int .u64 y3, .int .u64 y4] 33)).cell? ⟨wr.heap.size, 0, none⟩ = some (.int .u64 y1) := World.cell?_alloc_at _ _ _ _ rfl
        generalize wr.alloc (.cells #[.int .u64 y1, .int .i64 y2, .int .u64 y3, .int .u64 y4] 33) = W1 at *
        have HBW := Lib.hid hbW
        clear hbW g1 g2 g3 g4
        by_cases hL : i < L
        · obtain ⟨b2, off2, rfl, h1, -⟩ := (HS.out.below HBW.out).ents i (by rw [HDL.out]; exact hL)
          have HGO : Hid (((es.drop p).getD i default).1 = (more.getD i default).1 → i + 1 ≤ com (es.drop p) more) := fun h => com_go HC.out (by rw [HDL.out]; exact hL) hlt h
          rw [HYY.out] at HGO
          have HST : Hid (((es.drop p).getD i default).1 ≠ y1 → com (es.drop p) more = i) := fun h => com_stop HC.out (.inr (by rw [HYY.out]; exact h))
          have hLi : (i : Int) < (L : Int) := by omega
          generalize ((es.drop p).getD i default).1 = x1 at *
          by_cases hxy : x1 = y1
          · subst hxy
            have HN := Lib.hid (HGO.out rfl)
            go_quiet (fail)
            go_wp2
            have hbq : Below w.heap.size w (W1.drewN nq) := HBW.out.trans ((below_drewN' W1 nq).mono HBW.out.size)
            generalize W1.drewN nq = W2 at *
            go_roundg (gk - 1)
            case measure => omega
            case rel => exact ⟨i + 1, by omega, by simp, HN.out, hbq⟩
          · have hcm := Lib.hid (HST.out hxy)
            have hb1 : (x1 == y1) = false := by simpa using hxy
            have hb2 : (x1 != y1) = true := by simpa using hxy
            clear hxy
            have hle : p + i ≤ es.length := by have := (com_iff _ _ i).1 HC.out; rw [HDL.out] at this; have := HLL.out; omega
            have HLE := Lib.hid hle
            clear hle
            have hJ2 : Hid (joinL es (p : Int) more = es.take (p + i) ++ more.drop i) := by rw [Hid, hJ.out, hcm.out, if_neg (by omega)]
            obtain ⟨A2, C2, hA2, hS2⟩ := tail_sl HM.out i (by omega)
            have HS2 := Lib.hid hS2
            have j1 : IntKind.i64.wrap ((p : Int) + (i : Int)) = (p : Int) + (i : Int) := IntWalk.i64_in _ (by omega)
            have j2 : ((p : Int) + (i : Int)).toNat = p + i := by omega
            have j3 : (0 : Int) ≤ (p : Int) + (i : Int) := by omega
            have j4 : (p : Int) + (i : Int) ≤ (c : Int) := by have := HLE.out; omega
            have j5 : (i : Int) ≤ (more.length : Int) := by omega
            have j6 : p + i ≤ es.length := HLE.out
            go_quiet (fail)
            go_wp2
            have hbq : Below w.heap.size w (W1.drewN nq) := HBW.out.trans ((below_drewN' W1 nq).mono HBW.out.size)
            generalize W1.drewN nq = W2 at *
            have HBQ := Lib.hid hbq
            clear hbq cY
            go_still_tail 8, (by kernel_rfl)
            change wpList _ _ _ _ _ W2.drew
            have HB3 : Hid (Below w.heap.size w W2.drew) := HBQ.out.drew
            generalize W2.drew = W3 at *
            clear j1 j2
            go_wp2_with (go_at_call 37; refine (concat_new (p + i) (more.length - i) _ a A2 c C2 (es.take (p + i)) (more.drop i) (by simp; omega) (by simp) _ ((HL.out.below HB3.out).take _) (HS2.out.below HB3.out) (by omega)).mono ?_; rintro e w4 ⟨v, rfl, ho, hb4⟩)
            go_ret
            exact ⟨_, rfl, by rw [hJ2.out]; exact ho.mono (by simp; exact Nat.le_succ_of_le HB3.out.size), HB3.out.trans ((Below.trans ((Below.refl _ W3).alloc (Nat.le_refl _) _) (hb4.mono (by simp))).mono HB3.out.size)⟩
        · have hLi : (L : Int) ≤ (i : Int) := by omega
          have hle : p + i ≤ es.length := by have := (com_iff _ _ i).1 HC.out; rw [HDL.out] at this; have := HLL.out; omega
          have HLE := Lib.hid hle
          clear hle
          have hcm := Lib.hid (com_stop HC.out (.inl (by rw [HDL.out]; omega)))
          have hJ2 : Hid (joinL es (p : Int) more = es.take (p + i) ++ more.drop i) := by rw [Hid, hJ.out, hcm.out, if_neg (by omega)]
          obtain ⟨A2, C2, hA2, hS2⟩ := tail_sl HM.out i (by omega)
          have HS2 := Lib.hid hS2
          have j1 : IntKind.i64.wrap ((p : Int) + (i : Int)) = (p : Int) + (i : Int) := IntWalk.i64_in _ (by omega)
          have j2 : ((p : Int) + (i : Int)).toNat = p + i := by omega
          have j3 : (0 : Int) ≤ (p : Int) + (i : Int) := by omega
          have j4 : (p : Int) + (i : Int) ≤ (c : Int) := by have := HLE.out; omega
          have j5 : (i : Int) ≤ (more.length : Int) := by omega
          have j6 : p + i ≤ es.length := HLE.out
          go_quiet (fail)
          go_wp2
          have hbq : Below w.heap.size w (W1.drewN nq) := HBW.out.trans ((below_drewN' W1 nq).mono HBW.out.size)
          generalize W1.drewN nq = W2 at *
          have HBQ := Lib.hid hbq
          clear hbq cY
          go_still_tail 8, (by kernel_rfl)
          change wpList _ _ _ _ _ W2.drew
          have HB3 : Hid (Below w.heap.size w W2.drew) := HBQ.out.drew
          generalize W2.drew = W3 at *
          clear j1 j2
          go_wp2_with (go_at_call 37; refine (concat_new (p + i) (more.length - i) _ a A2 c C2 (es.take (p + i)) (more.drop i) (by simp; omega) (by simp) _ ((HL.out.below HB3.out).take _) (HS2.out.below HB3.out) (by omega)).mono ?_; rintro e w4 ⟨v, rfl, ho, hb4⟩)
          go_ret
          exact ⟨_, rfl, by rw [hJ2.out]; exact ho.mono (by simp; exact Nat.le_succ_of_le HB3.out.size), HB3.out.trans ((Below.trans ((Below.refl _ W3).alloc (Nat.le_refl _) _) (hb4.mono (by simp))).mono HB3.out.size)⟩
      · have hie : i = more.length := by omega
        have hcm : com (es.drop p) more = more.length := by have := (com_iff (es.drop p) more (com (es.drop p) more)).1 (Nat.le_refl _); have := HC.out; omega
        have hJ2 : Hid (joinL es (p : Int) more = es) := by rw [Hid, hJ.out, if_pos hcm]
        have HB := Lib.hid hB
        clear hcm hB
        go_wp2_with (go_at_call 36; refine (hcl.out _ HB.out).mono ?_; rintro e w1 ⟨v, rfl, ho, hb1⟩)
        go_ret
        exact ⟨_, rfl, by rw [hJ2.out]; exact ho.mono HB.out.size, HB.out.trans (hb1.mono HB.out.size)⟩
end Go.Proofs.Ythfchmdfoaiibaa
