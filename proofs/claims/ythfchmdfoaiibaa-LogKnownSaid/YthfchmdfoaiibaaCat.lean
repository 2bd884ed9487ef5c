/- Clone, Grow, Concat of entries. -/
import Derived.Test.YthfchmdfoaiibaaApp
import Derived.Lib.AppendZerosOnto
import Derived.Lib.SliceRun
namespace Go.Proofs.Ythfchmdfoaiibaa
open Go.RowKit Go.Joins

/-- a slice of entries that may be cut and appended. -/
structure Sl (w : World) (a : Option Addr) (cap : Nat) (es : List Ent) : Prop where
  ents : Ents w a es
  nil0 : a = none → cap = 0
  len : es.length ≤ cap
  capm : cap ≤ maxLen
  plain : ∀ ad, a = some ad → ∃ b off, ad = ⟨b, off, none⟩
theorem Sl.below {w w' : World} {a : Option Addr} {cap : Nat} {es : List Ent} (h : Sl w a cap es) (hb : Below w.heap.size w w') : Sl w' a cap es := ⟨ents_below h.ents hb, h.nil0, h.len, h.capm, h.plain⟩
theorem Sl.take {w : World} {a : Option Addr} {cap : Nat} {es : List Ent} (h : Sl w a cap es) (n : Nat) : Sl w a cap (es.take n) := ⟨ents_take h.ents n, h.nil0, by have := h.len; simp; omega, h.capm, h.plain⟩
theorem Sl.empty {w : World} {cap : Nat} {es : List Ent} (h : Sl w none cap es) : es = [] ∧ cap = 0 := by
  have h0 := h.nil0 rfl
  have := h.len
  exact ⟨List.eq_nil_of_length_eq_zero (by omega), h0⟩
theorem Sl.nil (w : World) : Sl w none 0 [] := ⟨fun i hi => by simp at hi, fun _ => rfl, Nat.zero_le _, Nat.zero_le _, fun _ e => by cases e⟩
theorem own_sl {w : World} {base : Nat} {v : Value} {es : List Ent} (h : OwnE w base v es) : ∃ a cap, v = .slice a es.length cap ∧ Sl w a cap es ∧ (∀ b off, a = some ⟨b, off, none⟩ → base ≤ b ∧ b < w.heap.size) := by
  obtain ⟨a, cap, e, h1, h2, h3, h4, h5⟩ := own_ents h
  refine ⟨a, cap, e, ⟨h1, h2, h3, h4, fun ad ha => ?_⟩, h5⟩
  rcases h.2 with ⟨e2, _⟩ | ⟨g, c, cur, e2, _⟩
  · rw [e] at e2; simp at e2; rw [e2.1] at ha; cases ha
  · rw [e] at e2; simp at e2; rw [e2.1] at ha; simp at ha; exact ⟨_, _, ha.symm⟩
theorem sl_form {es : List Ent} {n : Nat} {w w' : World} {e : Ending} (h : OwnPost es w e w') (hn : es.length = n) : ∃ a cap, e = .returned (.slice a n cap) ∧ Sl w' a cap es ∧ (∀ b off, a = some ⟨b, off, none⟩ → w.heap.size ≤ b) ∧ Below w.heap.size w w' := by
  subst hn
  obtain ⟨v, rfl, ho, hb⟩ := h
  obtain ⟨a, cap, rfl, h1, h2⟩ := own_sl ho
  exact ⟨a, cap, rfl, h1, fun b off e => (h2 b off e).1, hb⟩

set_option maxRecDepth 100000 in
theorem clone_any (a : Option Addr) (cap : Nat) (es : List Ent) (w : World) (h : Sl w a cap es) (hb : es.length * 32 ≤ 140737488355328) :
    Calls Try.prog 36 #[.slice a es.length cap] w (OwnPost es w) := by
  have qT : ∀ (w : World) (a : Option Addr) (n c : Nat), (binOp .eql 22 (.slice a n c) (.slice none 0 0)).run Try.prog w = .ok (.bool a.isNone) w := fun w a n c => Lib.run_eql_slice_nil w 22 33 a n c 0 0 Try.underlying22
  cases a with
  | none =>
    obtain ⟨rfl, rfl⟩ := h.empty
    go_enter Try.func36, Try.ntmps36
    go_wp2
    go_ret
    exact ⟨_, rfl, ownE_nil _ _, Below.refl _ _⟩
  | some ad =>
    have HS := Lib.hid h
    clear h
    have hown0 : Hid (OwnE (w.alloc (.cells #[] 33)) w.heap.size (.slice (some ⟨w.heap.size, 0, none⟩) 0 0) []) := World.ownsRow_made w #[] 0 (Nat.le_refl _) (Nat.zero_le _) rfl
    have hE1 : Hid (Ents (w.alloc (.cells #[] 33)) (some ad) es) := ents_below HS.out.ents ((Below.refl _ w).alloc (Nat.le_refl _) _)
    go_enter Try.func36, Try.ntmps36
    go_wp2_with (at_builtin; refine app_ents rfl _ _ rfl w.heap.size _ [] rfl hown0.out (some ad) es.length cap es rfl rfl hE1.out HS.out.nil0 (by simpa using hb) (by simp) ?_; intro v' w' hown' hgrow)
    go_ret
    exact ⟨_, rfl, hown', ((Below.refl _ w).alloc (Nat.le_refl _) _).grown hgrow (by simp) (fun j hj => (World.ownsRow.lt hown0.out j hj).1)⟩

set_option maxRecDepth 100000 in
theorem grow_any (n : Nat) (w : World) (hb : n * 32 ≤ 140737488355328) : Calls Try.prog 47 #[.slice none 0 0, .int .i64 (n : Int)] w (OwnPost [] w) := by
  by_cases h0 : n = 0
  · subst h0
    go_enter Try.func47, Try.ntmps47
    go_wp2
    go_ret
    exact ⟨_, rfl, ownE_nil _ _, Below.refl _ _⟩
  · obtain ⟨i, z, hi, hz, h1, h2, h3⟩ := zero33
    have hrz : ∀ ty, (Builtin.append_ #[22, 3] ty #[.slice none 0 0, .int .i64 (n : Int)]).run Try.prog w = .ok (.slice (some ⟨w.heap.size, 0, none⟩) n (grownCap w n 0 33)) (w.drew.alloc (.cells (#[] ++ Builtin.zeroCells z.cells n ++ Builtin.zeroCells z.cells (grownCap w n 0 33 - n)) 33)) := fun ty => by
      have h := Lib.run_append_grow_zeros w 22 3 ty 33 i z .i64 .i64 Try.underlying22 Try.underlying3 hi hz none 0 0 [] (by rw [h1]; exact run_firstCells_none w.drew 4 0 0 0) n (by omega) (by omega) (by omega) (by omega) (by rw [h2]; omega) (by simp only [Nat.zero_add]; rw [h2]; exact growslice_fits (by omega) hb)
      simp only [Nat.zero_add] at h
      exact h
    have hge : n ≤ grownCap w n 0 33 := grownCap_ge w n 0 33
    have hle : grownCap w n 0 33 ≤ maxLen := grownCap_le_maxLen w n 0 33 (by unfold maxLen; omega)
    have hown : Hid (OwnE (w.drew.alloc (.cells (#[] ++ Builtin.zeroCells z.cells n ++ Builtin.zeroCells z.cells (grownCap w n 0 33 - n)) 33)) w.heap.size (.slice (some ⟨w.heap.size, 0, none⟩) 0 (grownCap w n 0 33)) []) := by
      refine World.ownsRow_made w.drew _ _ (Nat.le_refl _) hle ?_
      simp only [Array.size_append, size_zeroCells, h3]
      simp
      omega
    generalize grownCap w n 0 33 = G at *
    have hbl : Hid (∀ o, Below w.heap.size w (w.drew.alloc o)) := fun o => (Below.refl _ w).drew.alloc (Nat.le_refl _) o
    generalize Obj.cells (#[] ++ Builtin.zeroCells z.cells n ++ Builtin.zeroCells z.cells (G - n)) 33 = O at *
    have hp : 0 < n := by omega
    unfold maxLen at hle
    clear hz h1 h2 h3 h0
    go_enter Try.func47, Try.ntmps47
    go_wp2_with (at_builtin; refine Lib.wpList_append_run _ rfl _ _ _ _ rfl _ _ rfl rfl _ _ (hrz _) ?_)
    go_ret
    exact ⟨_, rfl, hown.out, hbl.out _⟩
end Go.Proofs.Ythfchmdfoaiibaa
