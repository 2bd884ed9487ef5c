/- A net and its reference in memory: what lies where, and what stays. -/
import Derived.Test.YtmiaifbpepfbnaaMod
namespace Go.Proofs.Ytmiaifbpepfbnaa
open Go.RowKit Go.Joins Go.ChangeMaps

abbrev OwnF (w : World) (base : Nat) (v : Value) (xs : List Fr) : Prop := OwnL encF 3 31 w base v xs
abbrev OwnP (w : World) (base : Nat) (v : Value) (xs : List Pr) : Prop := OwnL encP 2 60 w base v xs
/-- the map holds just these links. -/
def MapIs (D : DataW Unit) (cuts : List Pr) : Prop :=
  ∀ c l, (0 ≤ c.1 ∧ c.1 < c.2 ∧ c.2 < 6) → keyOf Try.prog 60 (prV c) = some l → D.atKey l (.lit (.bool false)) = .lit (.bool (decide (c ∈ cuts)))
def MapAt (w : World) (bm : Nat) (s : St) : Prop := ∃ D : DataW Unit, w.ownsMap Try.prog 60 (plainElem Try.prog 4) bm s.cnt D ∧ MapIs D s.cuts
structure PN (w : World) (base p bm : Nat) (v : Value) (s : St) : Prop where
  blk : w.heap[p]? = some (.cells #[.int .i64 s.nodes, v, .map (some bm), .int .i64 s.fr, .int .i64 s.bt] 58 (0, 0))
  bp : base ≤ p
  own : OwnF w base v s.fl
  bb : base ≤ bm
  map : MapAt w bm s
structure RN (w : World) (base q : Nat) (v c : Value) (s : St) : Prop where
  blk : w.heap[q]? = some (.cells #[.int .i64 s.nodes, v, c, .int .i64 s.fr, .int .i64 s.bt] 28 (0, 0))
  bp : base ≤ q
  own : OwnF w base v s.fl
  ownc : OwnP w base c s.cuts
/-- what a net's methods touch. -/
def PF (p bm : Nat) (v : Value) (k : Nat) : Prop := k = p ∨ k = bm ∨ v.ownBlock = some k
def RF (q : Nat) (v c : Value) (k : Nat) : Prop := k = q ∨ v.ownBlock = some k ∨ c.ownBlock = some k
def PUpd (base p bm : Nat) (v : Value) (s : St) (w w' : World) : Prop := ∃ v', PN w' base p bm v' s ∧ Mod (PF p bm v) w w' ∧ ∀ g, v'.ownBlock = some g → v.ownBlock = some g ∨ w.heap.size ≤ g
def RUpd (base q : Nat) (v c : Value) (s : St) (w w' : World) : Prop :=
  ∃ v' c', RN w' base q v' c' s ∧ Mod (RF q v c) w w' ∧ (∀ g, v'.ownBlock = some g → v.ownBlock = some g ∨ w.heap.size ≤ g) ∧ (∀ g, c'.ownBlock = some g → c.ownBlock = some g ∨ w.heap.size ≤ g)
theorem blk_lt {w : World} {p : Nat} {o : Obj} (h : w.heap[p]? = some o) : p < w.heap.size := (Array.getElem?_eq_some_iff.1 h).1
theorem blk_below {w w' : World} {p : Nat} {o : Obj} (h : w.heap[p]? = some o) (hb : Below w.heap.size w w') : w'.heap[p]? = some o := (hb.block p (blk_lt h)).trans h
theorem map_mod {S : Nat → Prop} {w w' : World} {bm : Nat} {s : St} (h : MapAt w bm s) (hm : Mod S w w') (hs : ¬ S bm) : MapAt w' bm s := by
  obtain ⟨D, ⟨es, clock, hb, r⟩, hd⟩ := h
  exact ⟨D, ⟨es, clock, hm.heap hb hs, r⟩, hd⟩
theorem map_blk {w : World} {bm : Nat} {s : St} (h : MapAt w bm s) : ∃ es clock, w.heap[bm]? = some (.map es clock) := by
  obtain ⟨D, ⟨es, clock, hb, r⟩, hd⟩ := h
  exact ⟨es, clock, hb⟩
theorem Mod.belowAll {w w' : World} (h : Below w.heap.size w w') : Mod (fun _ => False) w w' := Mod.of_below h (Nat.le_refl _) _
theorem PN.mod {S : Nat → Prop} {w w' : World} {base p bm : Nat} {v : Value} {s : St} (h : PN w base p bm v s) (hm : Mod S w w') (hs : ∀ k, PF p bm v k → ¬ S k) : PN w' base p bm v s :=
  ⟨hm.heap h.blk (hs p (.inl rfl)), h.bp, h.own.mod hm (fun g hg => hs g (.inr (.inr hg))), h.bb, map_mod h.map hm (hs bm (.inr (.inl rfl)))⟩
theorem RN.mod {S : Nat → Prop} {w w' : World} {base q : Nat} {v c : Value} {s : St} (h : RN w base q v c s) (hm : Mod S w w') (hs : ∀ k, RF q v c k → ¬ S k) : RN w' base q v c s :=
  ⟨hm.heap h.blk (hs q (.inl rfl)), h.bp, h.own.mod hm (fun g hg => hs g (.inr (.inl hg))), h.ownc.mod hm (fun g hg => hs g (.inr (.inr hg)))⟩
theorem PN.below {w w' : World} {base p bm : Nat} {v : Value} {s : St} (h : PN w base p bm v s) (hb : Below w.heap.size w w') : PN w' base p bm v s := h.mod (Mod.belowAll hb) (fun _ _ c => c)
theorem RN.below {w w' : World} {base q : Nat} {v c : Value} {s : St} (h : RN w base q v c s) (hb : Below w.heap.size w w') : RN w' base q v c s := h.mod (Mod.belowAll hb) (fun _ _ c => c)
theorem PN.lt {w : World} {base p bm : Nat} {v : Value} {s : St} (h : PN w base p bm v s) : ∀ k, PF p bm v k → base ≤ k ∧ k < w.heap.size := by
  rintro k (rfl | rfl | hk)
  · exact ⟨h.bp, blk_lt h.blk⟩
  · obtain ⟨es, cl, hb⟩ := map_blk h.map
    exact ⟨h.bb, blk_lt hb⟩
  · exact World.ownsRow.lt h.own k hk
theorem RN.lt {w : World} {base q : Nat} {v c : Value} {s : St} (h : RN w base q v c s) : ∀ k, RF q v c k → base ≤ k ∧ k < w.heap.size := by
  rintro k (rfl | hk | hk)
  · exact ⟨h.bp, blk_lt h.blk⟩
  · exact World.ownsRow.lt h.own k hk
  · exact World.ownsRow.lt h.ownc k hk
/-- the blocks of a net and of a reference differ by what lies in them, but for the frames'. -/
theorem apart {w : World} {base p bm q : Nat} {v rv c : Value} {s r : St} (h : PN w base p bm v s) (k : RN w base q rv c r) (hd : ∀ g, v.ownBlock = some g → rv.ownBlock ≠ some g) : ∀ i, PF p bm v i → ¬ RF q rv c i := by
  obtain ⟨es, cl, hmb⟩ := map_blk h.map
  have hp := h.blk
  have hq := k.blk
  rintro i (rfl | rfl | hi) (rfl | hj | hj)
  · rw [hp] at hq; simp at hq
  · obtain ⟨_, cur, hc⟩ := k.own.block hj; rw [hp] at hc; simp at hc
  · obtain ⟨_, cur, hc⟩ := k.ownc.block hj; rw [hp] at hc; simp at hc
  · rw [hmb] at hq; simp at hq
  · obtain ⟨_, cur, hc⟩ := k.own.block hj; rw [hmb] at hc; simp at hc
  · obtain ⟨_, cur, hc⟩ := k.ownc.block hj; rw [hmb] at hc; simp at hc
  · obtain ⟨_, cur, hc⟩ := h.own.block hi; rw [hq] at hc; simp at hc
  · exact hd i hi hj
  · obtain ⟨_, cur, hc⟩ := h.own.block hi
    obtain ⟨_, cur2, hc2⟩ := k.ownc.block hj
    rw [hc] at hc2; simp at hc2
/-- both, side by side, made by the call itself. -/
structure Both (w0 w : World) (p bm q : Nat) (v rv c : Value) (s : St) : Prop where
  bel : Below w0.heap.size w0 w
  pn : PN w w0.heap.size p bm v s
  rn : RN w w0.heap.size q rv c s
  ap : ∀ g, v.ownBlock = some g → rv.ownBlock ≠ some g
theorem Both.below {w0 w w' : World} {p bm q : Nat} {v rv c : Value} {s : St} (h : Both w0 w p bm q v rv c s) (hb : Below w.heap.size w w') : Both w0 w' p bm q v rv c s := ⟨grew_trans h.bel hb, h.pn.below hb, h.rn.below hb, h.ap⟩
/-- the cells of a block, one by one. -/
theorem cell_of {w : World} {p : Nat} {cs : Array Value} {t : TypeId} (h : w.heap[p]? = some (.cells cs t (0, 0))) (i : Nat) {v : Value} (hv : cs[i]? = some v) : w.cell? ⟨p, i, none⟩ = some v ∧ w.frozen? ⟨p, i, none⟩ = false := by
  constructor
  · simp [World.cell?, h, hv]
  · simp [World.frozen?, h]
theorem PN.c {w : World} {base p bm : Nat} {v : Value} {s : St} (h : PN w base p bm v s) :
    (w.cell? ⟨p, 0, none⟩ = some (.int .i64 s.nodes) ∧ w.cell? ⟨p, 1, none⟩ = some v ∧ w.cell? ⟨p, 2, none⟩ = some (.map (some bm)) ∧ w.cell? ⟨p, 3, none⟩ = some (.int .i64 s.fr) ∧ w.cell? ⟨p, 4, none⟩ = some (.int .i64 s.bt)) ∧ ∀ i, i < 5 → w.frozen? ⟨p, i, none⟩ = false := by
  refine ⟨⟨(cell_of h.blk 0 rfl).1, (cell_of h.blk 1 rfl).1, (cell_of h.blk 2 rfl).1, (cell_of h.blk 3 rfl).1, (cell_of h.blk 4 rfl).1⟩, fun i hi => ?_⟩
  simp [World.frozen?, h.blk]
theorem RN.c {w : World} {base q : Nat} {v c : Value} {s : St} (h : RN w base q v c s) :
    (w.cell? ⟨q, 0, none⟩ = some (.int .i64 s.nodes) ∧ w.cell? ⟨q, 1, none⟩ = some v ∧ w.cell? ⟨q, 2, none⟩ = some c ∧ w.cell? ⟨q, 3, none⟩ = some (.int .i64 s.fr) ∧ w.cell? ⟨q, 4, none⟩ = some (.int .i64 s.bt)) ∧ ∀ i, i < 5 → w.frozen? ⟨q, i, none⟩ = false := by
  refine ⟨⟨(cell_of h.blk 0 rfl).1, (cell_of h.blk 1 rfl).1, (cell_of h.blk 2 rfl).1, (cell_of h.blk 3 rfl).1, (cell_of h.blk 4 rfl).1⟩, fun i hi => ?_⟩
  simp [World.frozen?, h.blk]
theorem setCell_blk {w : World} {p i : Nat} {cs : Array Value} {t : TypeId} {v : Value} (h : w.heap[p]? = some (.cells cs t (0, 0))) : (w.setCell ⟨p, i, none⟩ v).heap[p]? = some (.cells (cs.setIfInBounds i v) t (0, 0)) := by
  have hlt := blk_lt h
  simp only [World.setCell]
  rw [Array.getElem?_modify, if_pos rfl, h]
  rfl
/-! ### The map's laws, in the model's words -/
theorem zero4 (w : World) : (zeroValue 4).run Try.prog w = .ok (.bool false) w := by kernel_rfl
theorem map_look {w : World} {bm : Nat} {s : St} (h : MapAt w bm s) (c : Pr) (hc : 0 ≤ c.1 ∧ c.1 < c.2 ∧ c.2 < 6) : (Instr.lookup 51 (.map (some bm)) (.agg #[.int .i64 c.1, .int .i64 c.2]) false).run Try.prog w = .ok (.bool (decide (c ∈ s.cuts))) w := by
  obtain ⟨D, hD, hm⟩ := h
  obtain ⟨l, hl⟩ := kl_some c hc
  obtain ⟨v, ps, hrun, hv⟩ := hD.lookup (t := 51) (e := 4) keyed60 Try.underlying51 (zero4 w) (plainElem_bool Try.underlying4 false) hl
  rw [hm c l hc hl] at hv
  have : v = .bool (decide (c ∈ s.cuts)) := by
    unfold plainElem at hv
    rw [Try.underlying4] at hv
    cases v <;> simp at hv
    rw [hv.1]
  rw [this] at hrun
  exact hrun
theorem key_apart {c d : Pr} {l m : Lit} (hl : keyOf Try.prog 60 (prV c) = some l) (hm : keyOf Try.prog 60 (prV d) = some m) (h : c ≠ d) : l ≠ m := by
  rintro rfl
  have := keyed60.inj hl hm
  simp [prV] at this
  exact h (Prod.ext this.1 this.2)
theorem map_put {w : World} {bm : Nat} {s : St} (h : MapAt w bm s) (c : Pr) (hc : 0 ≤ c.1 ∧ c.1 < c.2 ∧ c.2 < 6) (hn : s.cnt < maxLen) (s' : St) (hs : s'.cuts = s.cuts ++ [c]) (hk : s'.cnt = s.cnt + 1) :
    ∃ w', (Instr.mapUpdate 51 (.map (some bm)) (.agg #[.int .i64 c.1, .int .i64 c.2]) (.bool true)).run Try.prog w = .ok () w' ∧ MapAt w' bm s' ∧ w.grownBy w' (some bm) := by
  obtain ⟨D, hD, hm⟩ := h
  obtain ⟨l, hl⟩ := kl_some c hc
  obtain ⟨w', hrun, h1, h2⟩ := hD.update (t := 51) (e := 4) keyed60 Try.underlying51 hn hl (plainElem_bool Try.underlying4 true)
  refine ⟨w', hrun, ⟨_, by rw [hk]; exact h1, ?_⟩, h2⟩
  intro d m hd hmk
  have hT := hD.tidy keyed60
  rw [hs]
  by_cases e : d = c
  · subst e
    rw [hl] at hmk; cases hmk
    rw [Go.Maps.atKey_put_same hT.isMap (keyed60.key hl)]
    simp
  · have hne : l ≠ m := key_apart hl hmk (Ne.symm e)
    rw [Go.Maps.atKey_put_other (Ne.symm hne), hm d m hd hmk]
    simp [e]
theorem map_del {w : World} {bm : Nat} {s : St} (h : MapAt w bm s) (c : Pr) (hc : 0 ≤ c.1 ∧ c.1 < c.2 ∧ c.2 < 6) (ty : TypeId) (hnd : s.cuts.Nodup) (s' : St) (hs : s'.cuts = s.cuts.erase c) (hk : s'.cnt = s.cnt) :
    ∃ w', (Builtin.delete_ #[51, 60] ty #[.map (some bm), .agg #[.int .i64 c.1, .int .i64 c.2]]).run Try.prog w = .ok (.tuple #[]) w' ∧ MapAt w' bm s' ∧ w.grownBy w' (some bm) := by
  obtain ⟨D, hD, hm⟩ := h
  obtain ⟨l, hl⟩ := kl_some c hc
  obtain ⟨w', hrun, h1, h2⟩ := hD.drop (t := 51) (e := 4) keyed60 Try.underlying51 hl ty
  refine ⟨w', hrun, ⟨_, by rw [hk]; exact h1, ?_⟩, h2.grown⟩
  intro d m hd hmk
  rw [hs]
  by_cases e : d = c
  · subst e
    rw [hl] at hmk; cases hmk
    rw [Go.Maps.atKey_del_same]
    simp [hnd.not_mem_erase]
  · have hne : l ≠ m := key_apart hl hmk (Ne.symm e)
    rw [Go.Maps.atKey_del_other (Ne.symm hne), hm d m hd hmk]
    simp [List.mem_erase_of_ne e]
/-! ### Fields that are written -/
theorem mod_setCell (p i : Nat) (w : World) (v : Value) : Mod (fun k => k = p) w (w.setCell ⟨p, i, none⟩ v) := Mod.cellOf p i v
theorem PN.put1 {S : Nat → Prop} {w w1 : World} {base p bm : Nat} {v v' : Value} {s s' : St} (h : PN w base p bm v s) (hm : Mod S w w1) (hp : ¬ S p) (hb : ¬ S bm) (ho : OwnF w1 base v' s'.fl)
    (e : s'.nodes = s.nodes ∧ s'.cuts = s.cuts ∧ s'.fr = s.fr ∧ s'.bt = s.bt ∧ s'.cnt = s.cnt) : PN (w1.setCell ⟨p, 1, none⟩ v') base p bm v' s' := by
  obtain ⟨e1, e2, e3, e4, e5⟩ := e
  have hb1 := hm.heap h.blk hp
  have hm1 := map_mod h.map hm hb
  obtain ⟨es, cl, hmb⟩ := map_blk hm1
  have hne : bm ≠ p := by rintro rfl; rw [hb1] at hmb; simp at hmb
  have hm2 := mod_setCell p 1 w1 v'
  refine ⟨?_, h.bp, ho.mod hm2 (fun g hg => ?_), h.bb, ?_⟩
  · rw [setCell_blk hb1, e1, e3, e4]; rfl
  · rintro rfl
    obtain ⟨_, cur, hc⟩ := ho.block hg
    rw [hb1] at hc; simp at hc
  · have := map_mod hm1 hm2 hne
    obtain ⟨D, h1, h2⟩ := this
    exact ⟨D, by rw [e5]; exact h1, by rw [e2]; exact h2⟩
theorem PN.put3 {w : World} {base p bm : Nat} {v : Value} {s : St} (h : PN w base p bm v s) (x : Int) : PN (w.setCell ⟨p, 3, none⟩ (.int .i64 x)) base p bm v { s with fr := x } := by
  obtain ⟨es, cl, hmb⟩ := map_blk h.map
  have hne : bm ≠ p := by rintro rfl; rw [h.blk] at hmb; simp at hmb
  have hm2 := mod_setCell p 3 w (.int .i64 x)
  refine ⟨?_, h.bp, h.own.mod hm2 (fun g hg => ?_), h.bb, map_mod (s := s) h.map hm2 hne⟩
  · rw [setCell_blk h.blk]; rfl
  · rintro rfl
    obtain ⟨_, cur, hc⟩ := h.own.block hg
    rw [h.blk] at hc; simp at hc
theorem PN.put4 {w : World} {base p bm : Nat} {v : Value} {s : St} (h : PN w base p bm v s) (x : Int) : PN (w.setCell ⟨p, 4, none⟩ (.int .i64 x)) base p bm v { s with bt := x } := by
  obtain ⟨es, cl, hmb⟩ := map_blk h.map
  have hne : bm ≠ p := by rintro rfl; rw [h.blk] at hmb; simp at hmb
  have hm2 := mod_setCell p 4 w (.int .i64 x)
  refine ⟨?_, h.bp, h.own.mod hm2 (fun g hg => ?_), h.bb, map_mod (s := s) h.map hm2 hne⟩
  · rw [setCell_blk h.blk]; rfl
  · rintro rfl
    obtain ⟨_, cur, hc⟩ := h.own.block hg
    rw [h.blk] at hc; simp at hc
theorem RN.put1 {S : Nat → Prop} {w w1 : World} {base q : Nat} {v c v' : Value} {s s' : St} (h : RN w base q v c s) (hm : Mod S w w1) (hp : ¬ S q) (hb : ∀ g, c.ownBlock = some g → ¬ S g) (ho : OwnF w1 base v' s'.fl)
    (e : s'.nodes = s.nodes ∧ s'.cuts = s.cuts ∧ s'.fr = s.fr ∧ s'.bt = s.bt) : RN (w1.setCell ⟨q, 1, none⟩ v') base q v' c s' := by
  obtain ⟨e1, e2, e3, e4⟩ := e
  have hb1 := hm.heap h.blk hp
  have hc1 := h.ownc.mod hm hb
  have hm2 := mod_setCell q 1 w1 v'
  refine ⟨?_, h.bp, ho.mod hm2 (fun g hg => ?_), ?_⟩
  · rw [setCell_blk hb1, e1, e3, e4]; rfl
  · rintro rfl
    obtain ⟨_, cur, hc⟩ := ho.block hg
    rw [hb1] at hc; simp at hc
  · rw [e2]
    refine hc1.mod hm2 (fun g hg => ?_)
    rintro rfl
    obtain ⟨_, cur, hc⟩ := hc1.block hg
    rw [hb1] at hc; simp at hc
theorem RN.put2 {S : Nat → Prop} {w w1 : World} {base q : Nat} {v c c' : Value} {s s' : St} (h : RN w base q v c s) (hm : Mod S w w1) (hp : ¬ S q) (hb : ∀ g, v.ownBlock = some g → ¬ S g) (ho : OwnP w1 base c' s'.cuts)
    (e : s'.nodes = s.nodes ∧ s'.fl = s.fl ∧ s'.fr = s.fr ∧ s'.bt = s.bt) : RN (w1.setCell ⟨q, 2, none⟩ c') base q v c' s' := by
  obtain ⟨e1, e2, e3, e4⟩ := e
  have hb1 := hm.heap h.blk hp
  have hc1 := h.own.mod hm hb
  have hm2 := mod_setCell q 2 w1 c'
  refine ⟨?_, h.bp, ?_, ho.mod hm2 (fun g hg => ?_)⟩
  · rw [setCell_blk hb1, e1, e3, e4]; rfl
  · rw [e2]
    refine hc1.mod hm2 (fun g hg => ?_)
    rintro rfl
    obtain ⟨_, cur, hc⟩ := hc1.block hg
    rw [hb1] at hc; simp at hc
  · rintro rfl
    obtain ⟨_, cur, hc⟩ := ho.block hg
    rw [hb1] at hc; simp at hc
theorem RN.put3 {w : World} {base q : Nat} {v c : Value} {s : St} (h : RN w base q v c s) (x : Int) : RN (w.setCell ⟨q, 3, none⟩ (.int .i64 x)) base q v c { s with fr := x } := by
  have hm2 := mod_setCell q 3 w (.int .i64 x)
  refine ⟨?_, h.bp, h.own.mod hm2 (fun g hg => ?_), h.ownc.mod hm2 (fun g hg => ?_)⟩
  · rw [setCell_blk h.blk]; rfl
  · rintro rfl
    obtain ⟨_, cur, hc⟩ := h.own.block hg
    rw [h.blk] at hc; simp at hc
  · rintro rfl
    obtain ⟨_, cur, hc⟩ := h.ownc.block hg
    rw [h.blk] at hc; simp at hc
theorem RN.put4 {w : World} {base q : Nat} {v c : Value} {s : St} (h : RN w base q v c s) (x : Int) : RN (w.setCell ⟨q, 4, none⟩ (.int .i64 x)) base q v c { s with bt := x } := by
  have hm2 := mod_setCell q 4 w (.int .i64 x)
  refine ⟨?_, h.bp, h.own.mod hm2 (fun g hg => ?_), h.ownc.mod hm2 (fun g hg => ?_)⟩
  · rw [setCell_blk h.blk]; rfl
  · rintro rfl
    obtain ⟨_, cur, hc⟩ := h.own.block hg
    rw [h.blk] at hc; simp at hc
  · rintro rfl
    obtain ⟨_, cur, hc⟩ := h.ownc.block hg
    rw [h.blk] at hc; simp at hc
theorem PN.not_own {w : World} {base p bm : Nat} {v : Value} {s : St} (h : PN w base p bm v s) : v.ownBlock ≠ some p ∧ v.ownBlock ≠ some bm ∧ p ≠ bm := by
  obtain ⟨es, cl, hmb⟩ := map_blk h.map
  refine ⟨fun e => ?_, fun e => ?_, fun e => ?_⟩
  · obtain ⟨_, cur, hc⟩ := h.own.block e; rw [h.blk] at hc; simp at hc
  · obtain ⟨_, cur, hc⟩ := h.own.block e; rw [hmb] at hc; simp at hc
  · subst e; rw [h.blk] at hmb; simp at hmb
theorem RN.not_own {w : World} {base q : Nat} {v c : Value} {s : St} (h : RN w base q v c s) : v.ownBlock ≠ some q ∧ c.ownBlock ≠ some q ∧ ∀ g, v.ownBlock = some g → c.ownBlock ≠ some g := by
  refine ⟨fun e => ?_, fun e => ?_, fun g hg e => ?_⟩
  · obtain ⟨_, cur, hc⟩ := h.own.block e; rw [h.blk] at hc; simp at hc
  · obtain ⟨_, cur, hc⟩ := h.ownc.block e; rw [h.blk] at hc; simp at hc
  · obtain ⟨_, cur, hc⟩ := h.own.block hg
    obtain ⟨_, cur2, hc2⟩ := h.ownc.block e
    rw [hc] at hc2; simp at hc2
end Go.Proofs.Ytmiaifbpepfbnaa
