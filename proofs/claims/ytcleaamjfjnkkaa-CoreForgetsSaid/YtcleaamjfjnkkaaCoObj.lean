/- A voter in memory: what lies where, and what stays. -/
import Derived.Test.YtcleaamjfjnkkaaCoPlain
import Derived.Test.YtcleaamjfjnkkaaLibA
namespace Go.Proofs.Ytcleaamjfjnkkaa
open Go.RowKit Go.Joins

instance : Inhabited Mg := ⟨mg0 0⟩
instance : Inhabited Pr := ⟨prZ⟩
/-- a message in memory: where its entries lie. -/
structure RM where
  ea : Option Addr
  ec : Nat
  m : Mg
instance : Inhabited RM := ⟨⟨none, 0, default⟩⟩
def mHead (x : RM) : List Value := [.int .i64 x.m.kind, .int .u64 x.m.term, .int .i64 x.m.prev, .int .u64 x.m.pterm, .slice x.ea x.m.ents.length x.ec, .int .i64 x.m.commit, .bool x.m.yes, .int .i64 x.m.mat, .int .i64 x.m.stamp]
def mRest : List Value := [.int .u64 0, .int .i64 0, .bool false, .slice none 0 0, .int .i64 0, .int .u64 0, .int .u64 0, .int .u64 0, .int .u64 0, .int .i64 0, .int .u64 0, .int .u64 0, .int .u64 0, .int .u64 0, .int .i64 0, .int .i64 0, .slice none 0 0]
def encM (x : RM) : List Value := mHead x ++ mRest
theorem EM : Enc encM 26 := ⟨fun _ => rfl, fun x u hu => by
  simp [encM, mHead, mRest] at hu
  rcases hu with rfl | rfl | rfl | rfl | rfl | rfl | rfl | rfl | rfl | rfl | rfl | rfl | rfl | rfl | rfl | rfl | rfl | rfl | rfl <;> rfl, by omega⟩
def encI (x : Int) : List Value := [.int .i64 x]
theorem EI : Enc encI 1 := ⟨fun _ => rfl, fun x u hu => by simp [encI] at hu; subst hu; rfl, by omega⟩
theorem EE : Enc encE 4 := ⟨fun _ => rfl, fun x u hu => by simp [encE] at hu; rcases hu with rfl | rfl | rfl | rfl <;> rfl, by omega⟩
set_option maxRecDepth 100000 in
theorem TM : Tab Try.prog 36 46 26 256 := ⟨Try.underlying36, _, _, rfl, rfl, rfl, rfl, rfl⟩
set_option maxRecDepth 100000 in
theorem TI : Tab Try.prog 60 3 1 8 := ⟨Try.underlying60, _, _, rfl, rfl, rfl, rfl, rfl⟩
set_option maxRecDepth 100000 in
theorem TE : Tab Try.prog 22 30 4 32 := ⟨Try.underlying22, _, _, rfl, rfl, rfl, rfl, rfl⟩

theorem bel1 (w : World) (o : Obj) : Below w.heap.size w (w.alloc o) := (Below.refl _ w).alloc (Nat.le_refl _) o
theorem keepc' {w w' : World} {p : Addr} {v : Value} (hc : w.cell? p = some v) (hb : Below w.heap.size w w') : w'.cell? p = some v :=
  (hb.cell (World.block_lt_of_cell? _ _ hc)).trans hc
theorem blk_lt {w : World} {p : Nat} {o : Obj} (h : w.heap[p]? = some o) : p < w.heap.size := (Array.getElem?_eq_some_iff.1 h).1
theorem blk_below {w w' : World} {p : Nat} {o : Obj} (h : w.heap[p]? = some o) (hb : Below w.heap.size w w') : w'.heap[p]? = some o := (hb.block p (blk_lt h)).trans h
theorem Mod.belowAll {w w' : World} (h : Below w.heap.size w w') : Mod (fun _ => False) w w' := Mod.of_below h (Nat.le_refl _) _
theorem Mod.bel {S : Nat → Prop} {w w' : World} (h : Below w.heap.size w w') : Mod S w w' := Mod.of_below h (Nat.le_refl _) _
theorem setCell_blk {w : World} {p i : Nat} {cs : Array Value} {t : TypeId} {v : Value} (h : w.heap[p]? = some (.cells cs t (0, 0))) : (w.setCell ⟨p, i, none⟩ v).heap[p]? = some (.cells (cs.setIfInBounds i v) t (0, 0)) := by
  simp only [World.setCell]
  rw [Array.getElem?_modify, if_pos rfl, h]
  rfl
theorem cell_of {w : World} {p : Nat} {cs : Array Value} {t : TypeId} (h : w.heap[p]? = some (.cells cs t (0, 0))) (i : Nat) {v : Value} (hv : cs[i]? = some v) : w.cell? ⟨p, i, none⟩ = some v ∧ w.frozen? ⟨p, i, none⟩ = false := by
  constructor
  · simp [World.cell?, h, hv]
  · simp [World.frozen?, h]
theorem ownR_not {w : World} {base n sz : Nat} {e : TypeId} {v : Value} {xs : List Value} {o : Obj} {k : Nat} (ho : w.ownsRow base e sz v n xs) (hq : w.heap[k]? = some o) (hne : ∀ cs, o ≠ .cells cs e (0, 0)) : v.ownBlock ≠ some k := by
  intro c
  rcases ho.2 with ⟨rfl, _⟩ | ⟨g', cap, cur, rfl, hb, hh, _⟩
  · simp [Value.ownBlock] at c
  · simp [Value.ownBlock] at c; subst c; rw [hq] at hh; exact hne _ (by simpa using hh)

def prL (x : Pr) : List Value := [.int .i64 x.mat, .int .i64 x.next, .int .i64 x.stamp, .int .i64 x.sentAt, .int .i64 x.sentTo, .bool x.votes]
def coA (c : Co) (lv ov tv : Value) : Array Value :=
  #[.int .i64 c.me, .int .u64 c.term, .int .i64 c.voted, lv, .int .i64 c.commit, .int .i64 c.role, .int .i64 c.head, .int .i64 c.heard, .int .i64 c.since, .int .i64 c.timeout, .int .i64 c.now,
    .int .i64 (c.pr 0).mat, .int .i64 (c.pr 0).next, .int .i64 (c.pr 0).stamp, .int .i64 (c.pr 0).sentAt, .int .i64 (c.pr 0).sentTo, .bool (c.pr 0).votes,
    .int .i64 (c.pr 1).mat, .int .i64 (c.pr 1).next, .int .i64 (c.pr 1).stamp, .int .i64 (c.pr 1).sentAt, .int .i64 (c.pr 1).sentTo, .bool (c.pr 1).votes,
    .int .i64 (c.pr 2).mat, .int .i64 (c.pr 2).next, .int .i64 (c.pr 2).stamp, .int .i64 (c.pr 2).sentAt, .int .i64 (c.pr 2).sentTo, .bool (c.pr 2).votes, ov, tv]
/-- a voter lies at p; what it sent last is left open. -/
structure CL (w : World) (base p : Nat) (lv ov tv : Value) (c : Co) : Prop where
  blk : w.heap[p]? = some (.cells (coA c lv ov tv) 76 (0, 0))
  bp : base ≤ p
  log : OwnE w base lv c.log
  ghl : c.gh ≤ w.heap.size
/-- its blocks. -/
def CF (p : Nat) (lv ov tv : Value) (k : Nat) : Prop := k = p ∨ lv.ownBlock = some k ∨ ov.ownBlock = some k ∨ tv.ownBlock = some k
/-- its blocks, and those that are elder than it wants. -/
def SF (c : Co) (p : Nat) (lv ov tv : Value) (k : Nat) : Prop := CF p lv ov tv k ∨ k < c.gh
/-- a message's entries lie in a block that none of S is. -/
def EAt (w : World) (S : Nat → Prop) (x : RM) : Prop := Sl w x.ea x.ec x.m.ents ∧ ∀ b off, x.ea = some ⟨b, off, none⟩ → b < w.heap.size ∧ ¬ S b
structure CAt (w : World) (base p : Nat) (lv ov tv : Value) (os : List RM) (c : Co) : Prop extends CL w base p lv ov tv c where
  out : OwnL encM 26 46 w base ov os
  dst : OwnL encI 1 3 w base tv c.dest
  eq : os.map RM.m = c.out
  ents : ∀ x ∈ os, EAt w (SF c p lv ov tv) x
theorem sf_step {c c' : Co} {p N : Nat} {lv ov tv lv' ov' tv' : Value} (hg : c'.gh = c.gh) (h : ∀ k, CF p lv' ov' tv' k → CF p lv ov tv k ∨ N ≤ k) : ∀ k, SF c' p lv' ov' tv' k → SF c p lv ov tv k ∨ N ≤ k := by
  rintro k (e | e)
  · exact (h k e).imp .inl id
  · exact .inl (.inr (hg ▸ e))
section
variable {w w' : World} {base p : Nat} {lv ov tv : Value} {os : List RM} {c c' : Co} {S : Nat → Prop}
theorem Sl.mod {a : Option Addr} {cap : Nat} {es : List Ent} (h : Sl w a cap es) (hm : Mod S w w') (hs : ∀ b off, a = some ⟨b, off, none⟩ → ¬ S b) : Sl w' a cap es := by
  refine ⟨fun i hi => ?_, h.nil0, h.len, h.capm, h.plain⟩
  obtain ⟨b, off, e, g1, g2, g3, g4⟩ := h.ents i hi
  have hn := hs b off e
  exact ⟨b, off, e, hm.cell g1 hn, hm.cell g2 hn, hm.cell g3 hn, hm.cell g4 hn⟩
theorem EAt.mod {S' : Nat → Prop} {x : RM} (h : EAt w S x) (hm : Mod S w w') (hs : ∀ k, S' k → S k ∨ w.heap.size ≤ k) : EAt w' S' x :=
  ⟨h.1.mod hm (fun b off e => (h.2 b off e).2), fun b off e => ⟨Nat.lt_of_lt_of_le (h.2 b off e).1 hm.size, fun c => by rcases hs b c with d | d; exact (h.2 b off e).2 d; have := (h.2 b off e).1; omega⟩⟩
theorem CL.not (h : CL w base p lv ov tv c) : lv.ownBlock ≠ some p := ownR_not h.log h.blk (fun cs e => by simp at e)
theorem CAt.nots (h : CAt w base p lv ov tv os c) : lv.ownBlock ≠ some p ∧ ov.ownBlock ≠ some p ∧ tv.ownBlock ≠ some p :=
  ⟨h.toCL.not, ownR_not h.out h.blk (fun cs e => by simp at e), ownR_not h.dst h.blk (fun cs e => by simp at e)⟩
theorem CAt.apart (h : CAt w base p lv ov tv os c) : (∀ g, lv.ownBlock = some g → ov.ownBlock ≠ some g ∧ tv.ownBlock ≠ some g) ∧ (∀ g, ov.ownBlock = some g → tv.ownBlock ≠ some g) := by
  have hl : ∀ g, lv.ownBlock = some g → ∃ cur, w.heap[g]? = some (.cells cur 30 (0, 0)) := fun g hg => (OwnL.block (enc := encE) h.log hg).2
  refine ⟨fun g hg => ?_, fun g hg => ?_⟩
  · obtain ⟨cur, hc⟩ := hl g hg
    exact ⟨ownR_not h.out hc (fun cs e => by simp at e), ownR_not h.dst hc (fun cs e => by simp at e)⟩
  · obtain ⟨_, cur, hc⟩ := h.out.block hg
    exact ownR_not h.dst hc (fun cs e => by simp at e)
theorem CL.lt (h : CL w base p lv ov tv c) : (base ≤ p ∧ p < w.heap.size) ∧ ∀ g, lv.ownBlock = some g → base ≤ g ∧ g < w.heap.size := ⟨⟨h.bp, blk_lt h.blk⟩, fun g hg => World.ownsRow.lt h.log g hg⟩
theorem CAt.lt (h : CAt w base p lv ov tv os c) : ∀ k, CF p lv ov tv k → base ≤ k ∧ k < w.heap.size := by
  rintro k (rfl | hk | hk | hk)
  · exact h.toCL.lt.1
  · exact h.toCL.lt.2 k hk
  · exact World.ownsRow.lt h.out k hk
  · exact World.ownsRow.lt h.dst k hk
theorem CL.mod (h : CL w base p lv ov tv c) (hm : Mod S w w') (hp : ¬ S p) (hl : ∀ g, lv.ownBlock = some g → ¬ S g) : CL w' base p lv ov tv c := ⟨hm.heap h.blk hp, h.bp, hm.own h.log hl, Nat.le_trans h.ghl hm.size⟩
theorem CL.below (h : CL w base p lv ov tv c) (hb : Below w.heap.size w w') : CL w' base p lv ov tv c := h.mod (Mod.belowAll hb) (fun c => c) (fun _ _ c => c)
theorem CAt.below (h : CAt w base p lv ov tv os c) (hb : Below w.heap.size w w') : CAt w' base p lv ov tv os c :=
  { h.toCL.below hb with
    out := h.out.below hb
    dst := h.dst.below hb
    eq := h.eq
    ents := fun x hx => (h.ents x hx).mod (Mod.bel hb) (fun _ hk => .inl hk) }
/-- fields that are no lists are written. -/
theorem CAt.put (h : CAt w base p lv ov tv os c) (hblk : w'.heap[p]? = some (.cells (coA c' lv ov tv) 76 (0, 0))) (hm : Mod (fun k => k = p) w w') (h1 : c'.log = c.log) (h2 : c'.out = c.out) (h3 : c'.dest = c.dest) (h4 : c'.gh = c.gh := by first | rfl | exact Co.follow_gh _ _) : CAt w' base p lv ov tv os c' := by
  obtain ⟨n1, n2, n3⟩ := h.nots
  refine { blk := hblk, bp := h.bp, log := ?_, ghl := by rw [h4]; exact Nat.le_trans h.ghl hm.size, out := hm.own h.out (fun g hg e => n2 (e ▸ hg)), dst := ?_, eq := h.eq.trans h2.symm, ents := fun x hx => ?_ }
  · rw [h1]; exact hm.own h.log (fun g hg e => n1 (e ▸ hg))
  · rw [h3]; exact hm.own h.dst (fun g hg e => n3 (e ▸ hg))
  · exact (h.ents x hx).mod (hm.mono (fun _ _ e => .inl (.inl e))) (fun _ hk => .inl (hk.imp id (fun e => h4 ▸ e)))
/-- what a method does to a voter. -/
def CUpd (base p : Nat) (lv ov tv : Value) (c' : Co) (w w' : World) : Prop := ∃ lv' ov' tv' os', CAt w' base p lv' ov' tv' os' c' ∧ Mod (CF p lv ov tv) w w' ∧ ∀ k, CF p lv' ov' tv' k → CF p lv ov tv k ∨ w.heap.size ≤ k
theorem CAt.upd (h : CAt w base p lv ov tv os c) (hblk : w'.heap[p]? = some (.cells (coA c' lv ov tv) 76 (0, 0))) (hm : Mod (fun k => k = p) w w') (h1 : c'.log = c.log) (h2 : c'.out = c.out) (h3 : c'.dest = c.dest) (h4 : c'.gh = c.gh := by first | rfl | exact Co.follow_gh _ _) : CUpd base p lv ov tv c' w w' :=
  ⟨lv, ov, tv, os, h.put hblk hm h1 h2 h3 h4, hm.mono (fun _ _ e => .inl e), fun _ hk => .inl hk⟩
theorem CAt.stay (h : CAt w base p lv ov tv os c) (hb : Below w.heap.size w w') : CUpd base p lv ov tv c w w' := ⟨lv, ov, tv, os, h.below hb, Mod.bel hb, fun _ hk => .inl hk⟩
theorem CUpd.then {w1 w2 : World} {c2 : Co} {lv1 ov1 tv1 : Value} (hm : Mod (CF p lv ov tv) w w1) (hf : ∀ k, CF p lv1 ov1 tv1 k → CF p lv ov tv k ∨ w.heap.size ≤ k) (h2 : CUpd base p lv1 ov1 tv1 c2 w1 w2) : CUpd base p lv ov tv c2 w w2 := by
  obtain ⟨lv', ov', tv', os', k1, k2, k3⟩ := h2
  refine ⟨lv', ov', tv', os', k1, hm.then k2 (fun i hi hc => ?_), fun k hk => ?_⟩
  · rcases hf i hc with d | d
    · exact d
    · omega
  · rcases k3 k hk with d | d
    · exact hf k d
    · exact .inr (Nat.le_trans hm.size d)
theorem CUpd.below {w0 : World} (hb : Below w0.heap.size w0 w) (h : CUpd base p lv ov tv c w w') : CUpd base p lv ov tv c w0 w' :=
  CUpd.then (Mod.bel hb) (fun _ hk => .inl hk) h
end
end Go.Proofs.Ytcleaamjfjnkkaa
