/- A disk in memory: what lies where, and what stays. -/
import Derived.Test.YtcgkdomfbkkboaaMaps
namespace Go.Proofs.Ytcgkdomfbkkboaa
open Go.RowKit Go.Joins Go.ChangeMaps

def RetV (v : Value) (w : World) (e : Ending) (w' : World) : Prop := e = .returned v ∧ Below w.heap.size w w'
theorem retV {v v' : Value} {w w' : World} (h : v = v') (hb : Below w.heap.size w w') : RetV v' w (.returned v) w' := ⟨by rw [h], hb⟩
/-- a number is answered, and the world is as R says. -/
def TupI (n : Int) (R : World → Prop) (e : Ending) (w' : World) : Prop := e = .returned (.int .i64 n) ∧ R w'
def Tup0 (R : World → Prop) (e : Ending) (w' : World) : Prop := e = .returned (.tuple #[]) ∧ R w'
theorem tupI {a b : Int} {R : World → Prop} {w : World} (h : a = b) (hr : R w) : TupI b R (.returned (.int .i64 a)) w := ⟨by rw [h], hr⟩
theorem bel1 (w : World) (o : Obj) : Below w.heap.size w (w.alloc o) := (Below.refl _ w).alloc (Nat.le_refl _) o
theorem keepc' {w w' : World} {p : Addr} {v : Value} (hc : w.cell? p = some v) (hb : Below w.heap.size w w') : w'.cell? p = some v :=
  (hb.cell (World.block_lt_of_cell? _ _ hc)).trans hc
def encB (b : Bf) : List Value := [.int .i64 b.1, .string b.2.1, .bool b.2.2]
theorem EB : Enc encB 3 := ⟨fun _ => rfl, fun x u hu => by simp [encB] at hu; rcases hu with rfl | rfl | rfl <;> rfl, by omega⟩
abbrev OwnB (w : World) (base : Nat) (v : Value) (xs : List Bf) : Prop := OwnL encB 3 70 w base v xs
theorem blk_lt {w : World} {p : Nat} {o : Obj} (h : w.heap[p]? = some o) : p < w.heap.size := (Array.getElem?_eq_some_iff.1 h).1
theorem Mod.belowAll {w w' : World} (h : Below w.heap.size w w') : Mod (fun _ => False) w w' := Mod.of_below h (Nat.le_refl _) _
theorem setCell_blk {w : World} {p i : Nat} {cs : Array Value} {t : TypeId} {v : Value} (h : w.heap[p]? = some (.cells cs t (0, 0))) : (w.setCell ⟨p, i, none⟩ v).heap[p]? = some (.cells (cs.setIfInBounds i v) t (0, 0)) := by
  simp only [World.setCell]
  rw [Array.getElem?_modify, if_pos rfl, h]
  rfl
theorem cell_of {w : World} {p : Nat} {cs : Array Value} {t : TypeId} (h : w.heap[p]? = some (.cells cs t (0, 0))) (i : Nat) {v : Value} (hv : cs[i]? = some v) : w.cell? ⟨p, i, none⟩ = some v ∧ w.frozen? ⟨p, i, none⟩ = false := by
  constructor
  · simp [World.cell?, h, hv]
  · simp [World.frozen?, h]
/-- a disk's fields. -/
structure Fl where
  len : Int
  room : Int
  fuse : Int
  off : Bool
def St.fl (s : St) : Fl := ⟨s.len, s.room, s.fuse, s.off⟩
/-- a disk in memory, whatever it holds. -/
structure PR (w : World) (base p bm : Nat) (v : Value) (c : Fl) (xs : List Bf) (n : Nat) (f : Fn) : Prop where
  blk : w.heap[p]? = some (.cells #[.map (some bm), v, .int .i64 c.len, .int .i64 c.room, .int .i64 c.fuse, .bool c.off] 61 (0, 0))
  bp : base ≤ p
  own : OwnB w base v xs
  bb : base ≤ bm
  map : MapAt ES w bm n f
abbrev PD (w : World) (base p bm : Nat) (v : Value) (s : St) : Prop := PR w base p bm v s.fl s.undo (cntF s.now) s.now
/-- what a disk's methods touch. -/
def PF (p bm : Nat) (v : Value) (k : Nat) : Prop := k = p ∨ k = bm ∨ v.ownBlock = some k
def PUpd (base p bm : Nat) (v : Value) (s : St) (w w' : World) : Prop := ∃ v', PD w' base p bm v' s ∧ Mod (PF p bm v) w w' ∧ ∀ g, v'.ownBlock = some g → v.ownBlock = some g ∨ w.heap.size ≤ g
section
variable {w w' : World} {base p bm n : Nat} {v : Value} {c : Fl} {xs : List Bf} {f : Fn}
theorem PR.mod {S : Nat → Prop} (h : PR w base p bm v c xs n f) (hm : Mod S w w') (hs : ∀ k, PF p bm v k → ¬ S k) : PR w' base p bm v c xs n f :=
  ⟨hm.heap h.blk (hs p (.inl rfl)), h.bp, h.own.mod hm (fun g hg => hs g (.inr (.inr hg))), h.bb, h.map.mod hm (hs bm (.inr (.inl rfl)))⟩
theorem PR.below (h : PR w base p bm v c xs n f) (hb : Below w.heap.size w w') : PR w' base p bm v c xs n f := h.mod (Mod.belowAll hb) (fun _ _ c => c)
theorem PR.lt (h : PR w base p bm v c xs n f) : ∀ k, PF p bm v k → base ≤ k ∧ k < w.heap.size := by
  rintro k (rfl | rfl | hk)
  · exact ⟨h.bp, blk_lt h.blk⟩
  · exact ⟨h.bb, h.map.lt⟩
  · exact World.ownsRow.lt h.own k hk
theorem PR.mono {base' : Nat} (h : PR w base p bm v c xs n f) (hb : base' ≤ base) : PR w base' p bm v c xs n f := ⟨h.blk, Nat.le_trans hb h.bp, h.own.mono hb, Nat.le_trans hb h.bb, h.map⟩
theorem PR.cells (h : PR w base p bm v c xs n f) :
    (w.cell? ⟨p, 0, none⟩ = some (.map (some bm)) ∧ w.cell? ⟨p, 1, none⟩ = some v ∧ w.cell? ⟨p, 2, none⟩ = some (.int .i64 c.len) ∧ w.cell? ⟨p, 3, none⟩ = some (.int .i64 c.room) ∧ w.cell? ⟨p, 4, none⟩ = some (.int .i64 c.fuse) ∧ w.cell? ⟨p, 5, none⟩ = some (.bool c.off)) ∧ ∀ i, i < 6 → w.frozen? ⟨p, i, none⟩ = false := by
  refine ⟨⟨(cell_of h.blk 0 rfl).1, (cell_of h.blk 1 rfl).1, (cell_of h.blk 2 rfl).1, (cell_of h.blk 3 rfl).1, (cell_of h.blk 4 rfl).1, (cell_of h.blk 5 rfl).1⟩, fun i hi => ?_⟩
  simp [World.frozen?, h.blk]
theorem PR.not_own (h : PR w base p bm v c xs n f) : v.ownBlock ≠ some p ∧ v.ownBlock ≠ some bm ∧ p ≠ bm := by
  obtain ⟨es, cl, hmb⟩ := h.map.blk
  refine ⟨fun e => ?_, fun e => ?_, fun e => ?_⟩
  · obtain ⟨_, cur, hc⟩ := h.own.block e; rw [h.blk] at hc; simp at hc
  · obtain ⟨_, cur, hc⟩ := h.own.block e; rw [hmb] at hc; simp at hc
  · subst e; rw [h.blk] at hmb; simp at hmb
theorem own_not {v' : Value} {xs' : List Bf} {o : Obj} {q : Nat} (ho : OwnB w base v' xs') (hq : w.heap[q]? = some o) (hne : ∀ cs, o ≠ .cells cs 70 (0, 0)) : v'.ownBlock ≠ some q := by
  intro e
  obtain ⟨_, cur, hc⟩ := ho.block e
  rw [hq] at hc
  exact hne _ (by simpa using hc)
/-- a field is written. -/
theorem PR.set (h : PR w base p bm v c xs n f) (i : Nat) (u : Value) (c' : Fl) (e : (#[.map (some bm), v, .int .i64 c.len, .int .i64 c.room, .int .i64 c.fuse, .bool c.off] : Array Value).setIfInBounds i u = #[.map (some bm), v, .int .i64 c'.len, .int .i64 c'.room, .int .i64 c'.fuse, .bool c'.off]) :
    PR (w.setCell ⟨p, i, none⟩ u) base p bm v c' xs n f := by
  have hm2 : Mod (fun k => k = p) w (w.setCell ⟨p, i, none⟩ u) := Mod.cellOf p i u
  obtain ⟨h1, h2, h3⟩ := h.not_own
  refine ⟨?_, h.bp, h.own.mod hm2 (fun g hg => ?_), h.bb, h.map.mod hm2 (fun e => h3 e.symm)⟩
  · rw [setCell_blk h.blk, e]
  · rintro rfl; exact h1 hg
/-- the row is written anew. -/
theorem PR.row {S : Nat → Prop} {w1 : World} {v' : Value} {xs' : List Bf} (h : PR w base p bm v c xs n f) (hm : Mod S w w1) (hp : ¬ S p) (hb : ¬ S bm) (ho : OwnB w1 base v' xs') : PR (w1.setCell ⟨p, 1, none⟩ v') base p bm v' c xs' n f := by
  have hb1 := hm.heap h.blk hp
  have hm1 := h.map.mod hm hb
  obtain ⟨h1, h2, h3⟩ := h.not_own
  have hm2 : Mod (fun k => k = p) w1 (w1.setCell ⟨p, 1, none⟩ v') := Mod.cellOf p 1 v'
  refine ⟨?_, h.bp, ho.mod hm2 (fun g hg => ?_), h.bb, hm1.mod hm2 (fun e => h3 e.symm)⟩
  · rw [setCell_blk hb1]; rfl
  · rintro rfl; exact own_not ho hb1 (fun cs e => by simp at e) hg
/-- the map is written. -/
theorem PR.turned {n' : Nat} {f' : Fn} (h : PR w base p bm v c xs n f) (ht : w.mapTurned w' bm) (hM : MapAt ES w' bm n' f') : PR w' base p bm v c xs n' f' := by
  have hm : Mod (fun k => some bm = some k) w w' := Mod.grown ht.grown (fun k hk => hk)
  obtain ⟨h1, h2, h3⟩ := h.not_own
  refine ⟨hm.heap h.blk (by simpa using fun e => h3 e.symm), h.bp, h.own.mod hm (fun g hg e => ?_), h.bb, hM⟩
  simp at e; subst e; exact h2 hg
end
theorem mod_turned {w w' : World} {bm : Nat} (ht : w.mapTurned w' bm) : Mod (fun k => k = bm) w w' := Mod.grown ht.grown (fun k hk => by simpa using hk.symm)
theorem PUpd.same {w w' : World} {base p bm : Nat} {v : Value} {s : St} (h : PD w base p bm v s) (hb : Below w.heap.size w w') : PUpd base p bm v s w w' := ⟨v, h.below hb, (Mod.belowAll hb).mono (fun _ _ c => c.elim), fun _ h => .inl h⟩
theorem PUpd.trans {w w' w'' : World} {base p bm : Nat} {v v1 : Value} {s' : St} (h : Mod (PF p bm v) w w') (hv : ∀ g, v1.ownBlock = some g → v.ownBlock = some g ∨ w.heap.size ≤ g) (k : PUpd base p bm v1 s' w' w'') : PUpd base p bm v s' w w'' := by
  obtain ⟨v2, h1, h2, h3⟩ := k
  refine ⟨v2, h1, h.then h2 (fun i hi hs => ?_), fun g hg => ?_⟩
  · rcases hs with c | c | c
    · exact .inl c
    · exact .inr (.inl c)
    · rcases hv i c with d | d
      · exact .inr (.inr d)
      · omega
  · rcases h3 g hg with c | c
    · exact hv g c
    · exact .inr (Nat.le_trans h.size c)
theorem PUpd.fieldOf {w : World} {base p bm : Nat} {v : Value} {s s' : St} (h : PD w base p bm v s) (i : Nat) (u : Value) (e1 : s'.base = s.base) (e2 : s'.more = s.more) (e : (#[.map (some bm), v, .int .i64 s.len, .int .i64 s.room, .int .i64 s.fuse, .bool s.off] : Array Value).setIfInBounds i u = #[.map (some bm), v, .int .i64 s'.len, .int .i64 s'.room, .int .i64 s'.fuse, .bool s'.off]) :
    PD (w.setCell ⟨p, i, none⟩ u) base p bm v s' ∧ Mod (PF p bm v) w (w.setCell ⟨p, i, none⟩ u) := by
  have := h.set i u s'.fl e
  refine ⟨?_, (Mod.cellOf p i u).mono (fun k _ hk => .inl hk)⟩
  show PR _ _ _ _ _ _ (undoOf s'.base s'.more) (cntF (apply s'.base s'.more)) (apply s'.base s'.more)
  rw [e1, e2]
  exact this
end Go.Proofs.Ytcgkdomfbkkboaa
