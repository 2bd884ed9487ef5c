/- The reference in memory. -/
import Derived.Test.YtcgkdomfbkkboaaOne
namespace Go.Proofs.Ytcgkdomfbkkboaa
open Go.RowKit Go.Joins Go.ChangeMaps

def encS (x : BA) : List Value := [.string x]
theorem ES1 : Enc encS 1 := ⟨fun _ => rfl, fun x u hu => by simp [encS] at hu; subst hu; rfl, by omega⟩
def encW (x : Wr) : List Value := [.int .i64 x.1, .string x.2]
theorem EW : Enc encW 2 := ⟨fun _ => rfl, fun x u hu => by simp [encW] at hu; rcases hu with rfl | rfl <;> rfl, by omega⟩
theorem TW : Tab Try.prog 62 68 2 24 := ⟨Try.underlying62, _, _, rfl, rfl, rfl, rfl, rfl⟩
theorem TS : Tab Try.prog 36 9 1 16 := ⟨Try.underlying36, _, _, rfl, rfl, rfl, rfl, rfl⟩
abbrev OwnS (w : World) (base : Nat) (v : Value) (xs : List BA) : Prop := OwnL encS 1 9 w base v xs
abbrev OwnW (w : World) (base : Nat) (v : Value) (xs : List Wr) : Prop := OwnL encW 2 68 w base v xs
theorem flatS (xs : List BA) : flatOf encS xs = xs.map Value.string := by
  induction xs with
  | nil => rfl
  | cons x xs ih =>
    have ih2 : List.flatMap encS xs = xs.map Value.string := ih
    simp [flatOf, encS]
    exact ih2
/-- one element is written anew. -/
theorem ownS_set {w : World} {base g n cap i : Nat} {xs : List BA} (h : OwnS w base (.slice (some ⟨g, 0, none⟩) n cap) xs) (_ : i < xs.length) (x : BA) : OwnS (w.setCell ⟨g, i, none⟩ (.string x)) base (.slice (some ⟨g, 0, none⟩) n cap) (xs.set i x) := by
  obtain ⟨h1, h2⟩ := h
  refine ⟨by rw [flatOf_length ES1], ?_⟩
  rcases h2 with ⟨c, -⟩ | ⟨g', cap', cur, hv, hb, hg, hn, hc, hs, ht⟩
  · cases c
  · obtain ⟨rfl, rfl, rfl⟩ : g = g' ∧ n = xs.length ∧ cap = cap' := by simpa using hv
    rw [List.length_set]
    refine .inr ⟨g, cap, cur.setIfInBounds i (.string x), rfl, hb, setCell_blk hg, hn, hc, by simpa using hs, ?_⟩
    rw [flatS] at ht ⊢
    rw [List.map_set, ← ht, Array.toList_setIfInBounds, Nat.mul_one, ← List.take_set]
/-- a row of so many elements lies at a block of its own. -/
theorem ownS_cell {w : World} {base : Nat} {v : Value} {xs : List BA} (h : OwnS w base v xs) {i : Nat} (hi : i < xs.length) : ∃ g cap, v = .slice (some ⟨g, 0, none⟩) xs.length cap ∧ w.cell? ⟨g, i, none⟩ = some (.string (xs.getD i default)) ∧ w.frozen? ⟨g, i, none⟩ = false := by
  obtain ⟨g, cap, hv, hb, hg⟩ := h.form (by omega)
  obtain ⟨a, c, hv2, hs, -⟩ := h.sli ES1
  rw [hv] at hv2
  obtain ⟨rfl, -⟩ : some ⟨g, 0, none⟩ = a ∧ cap = c := by simpa using hv2
  obtain ⟨b, off, e, hc⟩ := hs.lst i hi
  obtain ⟨rfl, rfl⟩ : g = b ∧ 0 = off := by simpa using e
  have h0 := hc 0 _ rfl
  refine ⟨g, cap, hv, by simpa using h0, ?_⟩
  obtain ⟨-, cur, hblk⟩ := h.block (g := g) (by rw [hv]; rfl)
  simp [World.frozen?, hblk]
/-- the reference in memory, whatever it holds. -/
structure RR (w : World) (base q : Nat) (bv nv mv : Value) (c : Fl) (u : Int) (xb xn : List BA) (xm : List Wr) : Prop where
  blk : w.heap[q]? = some (.cells #[.int .i64 c.len, .int .i64 c.room, bv, nv, .int .i64 u, mv, .int .i64 c.fuse, .bool (!c.off)] 64 (0, 0))
  bq : base ≤ q
  ob : OwnS w base bv xb
  on : OwnS w base nv xn
  om : OwnW w base mv xm
  ap : ∀ g, bv.ownBlock = some g → nv.ownBlock ≠ some g
def rowOf (f : Fn) (n : Int) : List BA := (List.range n.toNat).map fun (i : Nat) => (f (i : Int)).getD ByteArray.empty
abbrev RD (w : World) (base q : Nat) (bv nv mv : Value) (s : St) : Prop := RR w base q bv nv mv s.fl (cntF s.now) (rowOf s.base s.len) (rowOf s.now s.len) s.more
def RF (q : Nat) (bv nv mv : Value) (k : Nat) : Prop := k = q ∨ bv.ownBlock = some k ∨ nv.ownBlock = some k ∨ mv.ownBlock = some k
def RUpd (base q : Nat) (bv nv mv : Value) (s : St) (w w' : World) : Prop := ∃ mv', RD w' base q bv nv mv' s ∧ Mod (RF q bv nv mv) w w' ∧ ∀ g, mv'.ownBlock = some g → mv.ownBlock = some g ∨ w.heap.size ≤ g
theorem rowOf_length {f : Fn} {n : Int} : (rowOf f n).length = n.toNat := by simp [rowOf]
theorem rowOf_get (f : Fn) {n : Int} {i : Nat} (h : (i : Int) < n) : (rowOf f n).getD i default = (f (i : Int)).getD ByteArray.empty := by
  have h2 : i < n.toNat := by omega
  simp [rowOf, List.getD_eq_getElem?_getD, h2]
theorem rowOf_set (f : Fn) {n : Int} {i : Nat} (h : (i : Int) < n) (x : BA) : (rowOf f n).set i x = rowOf (upd f i (some x)) n := by
  apply List.ext_getElem?
  intro j
  rw [List.getElem?_set, rowOf_length]
  by_cases e : i = j
  · subst e
    have h2 : i < n.toNat := by omega
    simp [rowOf, h2, upd]
  · rw [if_neg e]
    by_cases h2 : j < n.toNat
    · have e2 : (j : Int) ≠ (i : Int) := by omega
      simp [rowOf, h2, upd, e2]
    · simp [rowOf, h2]
section
variable {w w' : World} {base q : Nat} {bv nv mv : Value} {c : Fl} {u : Int} {xb xn : List BA} {xm : List Wr}
theorem RR.mod {S : Nat → Prop} (h : RR w base q bv nv mv c u xb xn xm) (hm : Mod S w w') (hs : ∀ k, RF q bv nv mv k → ¬ S k) : RR w' base q bv nv mv c u xb xn xm :=
  ⟨hm.heap h.blk (hs q (.inl rfl)), h.bq, h.ob.mod hm (fun g hg => hs g (.inr (.inl hg))), h.on.mod hm (fun g hg => hs g (.inr (.inr (.inl hg)))), h.om.mod hm (fun g hg => hs g (.inr (.inr (.inr hg)))), h.ap⟩
theorem RR.below (h : RR w base q bv nv mv c u xb xn xm) (hb : Below w.heap.size w w') : RR w' base q bv nv mv c u xb xn xm := h.mod (Mod.belowAll hb) (fun _ _ c => c)
theorem RR.lt (h : RR w base q bv nv mv c u xb xn xm) : ∀ k, RF q bv nv mv k → base ≤ k ∧ k < w.heap.size := by
  rintro k (rfl | hk | hk | hk)
  · exact ⟨h.bq, blk_lt h.blk⟩
  · exact World.ownsRow.lt h.ob k hk
  · exact World.ownsRow.lt h.on k hk
  · exact World.ownsRow.lt h.om k hk
theorem RR.cells (h : RR w base q bv nv mv c u xb xn xm) :
    (w.cell? ⟨q, 0, none⟩ = some (.int .i64 c.len) ∧ w.cell? ⟨q, 1, none⟩ = some (.int .i64 c.room) ∧ w.cell? ⟨q, 2, none⟩ = some bv ∧ w.cell? ⟨q, 3, none⟩ = some nv ∧ w.cell? ⟨q, 4, none⟩ = some (.int .i64 u) ∧ w.cell? ⟨q, 5, none⟩ = some mv ∧ w.cell? ⟨q, 6, none⟩ = some (.int .i64 c.fuse) ∧ w.cell? ⟨q, 7, none⟩ = some (.bool (!c.off))) ∧ ∀ i, i < 8 → w.frozen? ⟨q, i, none⟩ = false := by
  refine ⟨⟨(cell_of h.blk 0 rfl).1, (cell_of h.blk 1 rfl).1, (cell_of h.blk 2 rfl).1, (cell_of h.blk 3 rfl).1, (cell_of h.blk 4 rfl).1, (cell_of h.blk 5 rfl).1, (cell_of h.blk 6 rfl).1, (cell_of h.blk 7 rfl).1⟩, fun i hi => ?_⟩
  simp [World.frozen?, h.blk]
theorem ownL_not {α : Type} {enc : α → List Value} {sz : Nat} {ty : TypeId} {v' : Value} {xs : List α} {o : Obj} {k : Nat} (ho : OwnL enc sz ty w base v' xs) (hq : w.heap[k]? = some o) (hne : ∀ cs, o ≠ .cells cs ty (0, 0)) : v'.ownBlock ≠ some k := by
  intro e
  obtain ⟨_, cur, hc⟩ := ho.block e
  rw [hq] at hc
  exact hne _ (by simpa using hc)
theorem RR.not_own (h : RR w base q bv nv mv c u xb xn xm) : bv.ownBlock ≠ some q ∧ nv.ownBlock ≠ some q ∧ mv.ownBlock ≠ some q ∧ (∀ g, bv.ownBlock = some g → mv.ownBlock ≠ some g) ∧ ∀ g, nv.ownBlock = some g → mv.ownBlock ≠ some g := by
  refine ⟨ownL_not h.ob h.blk (fun cs e => by simp at e), ownL_not h.on h.blk (fun cs e => by simp at e), ownL_not h.om h.blk (fun cs e => by simp at e), fun g hg e => ?_, fun g hg e => ?_⟩
  · obtain ⟨_, cur, hc⟩ := h.ob.block hg
    exact ownL_not h.om hc (fun cs e => by simp at e) e
  · obtain ⟨_, cur, hc⟩ := h.on.block hg
    exact ownL_not h.om hc (fun cs e => by simp at e) e
/-- a field is written that is no row. -/
theorem RR.set (h : RR w base q bv nv mv c u xb xn xm) (i : Nat) (x : Value) (c' : Fl) (u' : Int) (e : (#[.int .i64 c.len, .int .i64 c.room, bv, nv, .int .i64 u, mv, .int .i64 c.fuse, .bool (!c.off)] : Array Value).setIfInBounds i x = #[.int .i64 c'.len, .int .i64 c'.room, bv, nv, .int .i64 u', mv, .int .i64 c'.fuse, .bool (!c'.off)]) :
    RR (w.setCell ⟨q, i, none⟩ x) base q bv nv mv c' u' xb xn xm := by
  have hm2 : Mod (fun k => k = q) w (w.setCell ⟨q, i, none⟩ x) := Mod.cellOf q i x
  obtain ⟨h1, h2, h3, -, -⟩ := h.not_own
  refine ⟨by rw [setCell_blk h.blk, e], h.bq, h.ob.mod hm2 (fun g hg => ?_), h.on.mod hm2 (fun g hg => ?_), h.om.mod hm2 (fun g hg => ?_), h.ap⟩ <;> rintro rfl
  · exact h1 hg
  · exact h2 hg
  · exact h3 hg
/-- the row of writes is written anew. -/
theorem RR.more {S : Nat → Prop} {w1 : World} {mv' : Value} {xm' : List Wr} (h : RR w base q bv nv mv c u xb xn xm) (hm : Mod S w w1) (hp : ¬ S q) (hb : ∀ g, bv.ownBlock = some g → ¬ S g) (hn : ∀ g, nv.ownBlock = some g → ¬ S g) (ho : OwnW w1 base mv' xm') : RR (w1.setCell ⟨q, 5, none⟩ mv') base q bv nv mv' c u xb xn xm' := by
  have hb1 := hm.heap h.blk hp
  obtain ⟨h1, h2, h3, -, -⟩ := h.not_own
  have hm2 : Mod (fun k => k = q) w1 (w1.setCell ⟨q, 5, none⟩ mv') := Mod.cellOf q 5 mv'
  refine ⟨by rw [setCell_blk hb1]; rfl, h.bq, (h.ob.mod hm hb).mod hm2 (fun g hg => ?_), (h.on.mod hm hn).mod hm2 (fun g hg => ?_), ho.mod hm2 (fun g hg => ?_), h.ap⟩ <;> rintro rfl
  · exact h1 hg
  · exact h2 hg
  · exact ownL_not ho hb1 (fun cs e => by simp at e) hg
/-- an element of what it is now is written. -/
theorem RR.setN (h : RR w base q bv nv mv c u xb xn xm) {i : Nat} (hi : i < xn.length) (x : BA) : ∃ g cap, nv = .slice (some ⟨g, 0, none⟩) xn.length cap ∧ RR (w.setCell ⟨g, i, none⟩ (.string x)) base q bv nv mv c u xb (xn.set i x) xm ∧ Mod (RF q bv nv mv) w (w.setCell ⟨g, i, none⟩ (.string x)) := by
  obtain ⟨g, cap, hv, -, -⟩ := ownS_cell h.on hi
  have hg : nv.ownBlock = some g := by rw [hv]; rfl
  obtain ⟨h1, h2, h3, h4, h5⟩ := h.not_own
  have hm : Mod (fun k => k = g) w (w.setCell ⟨g, i, none⟩ (.string x)) := Mod.cellOf g i _
  have hon := h.on
  rw [hv] at hon
  have hs := ownS_set hon hi x
  rw [← hv] at hs
  refine ⟨g, cap, hv, ⟨hm.heap h.blk (fun e => h2 (e ▸ hg)), h.bq, h.ob.mod hm (fun k hk e => h.ap k hk (e ▸ hg)), hs, h.om.mod hm (fun k hk e => h5 g hg (e ▸ hk)), h.ap⟩, hm.mono (fun k _ e => .inr (.inr (.inl (e ▸ hg))))⟩
theorem RR.setB (h : RR w base q bv nv mv c u xb xn xm) {i : Nat} (hi : i < xb.length) (x : BA) : ∃ g cap, bv = .slice (some ⟨g, 0, none⟩) xb.length cap ∧ RR (w.setCell ⟨g, i, none⟩ (.string x)) base q bv nv mv c u (xb.set i x) xn xm ∧ Mod (RF q bv nv mv) w (w.setCell ⟨g, i, none⟩ (.string x)) := by
  obtain ⟨g, cap, hv, -, -⟩ := ownS_cell h.ob hi
  have hg : bv.ownBlock = some g := by rw [hv]; rfl
  obtain ⟨h1, h2, h3, h4, h5⟩ := h.not_own
  have hm : Mod (fun k => k = g) w (w.setCell ⟨g, i, none⟩ (.string x)) := Mod.cellOf g i _
  have hob := h.ob
  rw [hv] at hob
  have hs := ownS_set hob hi x
  rw [← hv] at hs
  refine ⟨g, cap, hv, ⟨hm.heap h.blk (fun e => h1 (e ▸ hg)), h.bq, hs, h.on.mod hm (fun k hk e => h.ap g hg (e ▸ hk)), h.om.mod hm (fun k hk e => h4 g hg (e ▸ hk)), h.ap⟩, hm.mono (fun k _ e => .inr (.inl (e ▸ hg)))⟩
end
theorem RUpd.same {w w' : World} {base q : Nat} {bv nv mv : Value} {s : St} (h : RD w base q bv nv mv s) (hb : Below w.heap.size w w') : RUpd base q bv nv mv s w w' := ⟨mv, h.below hb, (Mod.belowAll hb).mono (fun _ _ c => c.elim), fun _ h => .inl h⟩
theorem RUpd.fixed {w w' : World} {base q : Nat} {bv nv mv : Value} {s : St} (h : RD w' base q bv nv mv s) (hm : Mod (RF q bv nv mv) w w') : RUpd base q bv nv mv s w w' := ⟨mv, h, hm, fun _ h => .inl h⟩
theorem RUpd.trans {w w' w'' : World} {base q : Nat} {bv nv mv mv1 : Value} {s' : St} (h : Mod (RF q bv nv mv) w w') (hv : ∀ g, mv1.ownBlock = some g → mv.ownBlock = some g ∨ w.heap.size ≤ g) (k : RUpd base q bv nv mv1 s' w' w'') : RUpd base q bv nv mv s' w w'' := by
  obtain ⟨v2, h1, h2, h3⟩ := k
  refine ⟨v2, h1, h.then h2 (fun i hi hs => ?_), fun g hg => ?_⟩
  · rcases hs with c | c | c | c
    · exact .inl c
    · exact .inr (.inl c)
    · exact .inr (.inr (.inl c))
    · rcases hv i c with d | d
      · exact .inr (.inr (.inr d))
      · omega
  · rcases h3 g hg with c | c
    · exact hv g c
    · exact .inr (Nat.le_trans h.size c)
end Go.Proofs.Ytcgkdomfbkkboaa
