/- Small words and laws of no one program: posts of contracts, what the call owns, rows of integers. -/
import Derived.WalkKit
import Derived.WalkSpells
import Derived.WalkLawsBesides
import Derived.Lib.Hide
import Derived.BigQuiet
import Derived.Deep.QuietTactic
import Derived.Deep.DeepCutAuto
import Derived.Deep.LoopGhost
import Derived.Deep.CutBlock
import Derived.Lib.SmallJoins
import Derived.StillTailTactics
import Derived.RangeFuncBox
namespace Go.Proofs.Ytcgkdomfbkkboaa
open Go.RowKit Go.Joins

/-! ### Posts -/
def RetI (n : Int) (w : World) (e : Ending) (w' : World) : Prop := e = .returned (.int .i64 n) ∧ Below w.heap.size w w'
def RetB (b : Bool) (w : World) (e : Ending) (w' : World) : Prop := e = .returned (.bool b) ∧ Below w.heap.size w w'
def SameI (n : Int) (w : World) (e : Ending) (w' : World) : Prop := e = .returned (.int .i64 n) ∧ w = w'
def SameB (b : Bool) (w : World) (e : Ending) (w' : World) : Prop := e = .returned (.bool b) ∧ w = w'
theorem retI {a b : Int} {w w' : World} (h : a = b) (hb : Below w.heap.size w w') : RetI b w (.returned (.int .i64 a)) w' := ⟨by rw [h], hb⟩
theorem retB {a b : Bool} {w w' : World} (h : a = b) (hb : Below w.heap.size w w') : RetB b w (.returned (.bool a)) w' := ⟨by rw [h], hb⟩
theorem sameI {a b : Int} {w : World} (h : a = b) : SameI b w (.returned (.int .i64 a)) w := ⟨by rw [h], rfl⟩
theorem sameB {a b : Bool} {w : World} (h : a = b) : SameB b w (.returned (.bool a)) w := ⟨by rw [h], rfl⟩
theorem grew_trans {a b c : World} (h : Below a.heap.size a b) (k : Below b.heap.size b c) : Below a.heap.size a c := h.trans (k.mono h.size)

/-! ### A world in which some blocks alone may have turned -/
/-- of what was there in w, all but the blocks S is in w' as it was. -/
structure Mod (S : Nat → Prop) (w w' : World) : Prop where
  os : w'.os = w.os
  tape : w'.tape = w.tape
  output : w'.output = w.output
  size : w.heap.size ≤ w'.heap.size
  block : ∀ k, k < w.heap.size → ¬ S k → w'.heap[k]? = w.heap[k]?

theorem Mod.refl (S : Nat → Prop) (w : World) : Mod S w w := ⟨rfl, rfl, rfl, Nat.le_refl _, fun _ _ _ => rfl⟩
theorem Mod.trans {S : Nat → Prop} {a b c : World} (h : Mod S a b) (k : Mod S b c) : Mod S a c :=
  ⟨k.os.trans h.os, k.tape.trans h.tape, k.output.trans h.output, Nat.le_trans h.size k.size, fun i hi hs => (k.block i (Nat.lt_of_lt_of_le hi h.size) hs).trans (h.block i hi hs)⟩
theorem Mod.mono {S S' : Nat → Prop} {a b : World} (h : Mod S a b) (hs : ∀ k, k < a.heap.size → S k → S' k) : Mod S' a b :=
  ⟨h.os, h.tape, h.output, h.size, fun i hi hn => h.block i hi (fun c => hn (hs i hi c))⟩
/-- steps that touch what is new since a, or S, alone. -/
theorem Mod.then {S S' : Nat → Prop} {a b c : World} (h : Mod S a b) (k : Mod S' b c) (hs : ∀ i, i < a.heap.size → S' i → S i) : Mod S a c :=
  ⟨k.os.trans h.os, k.tape.trans h.tape, k.output.trans h.output, Nat.le_trans h.size k.size, fun i hi hn => (k.block i (Nat.lt_of_lt_of_le hi h.size) (fun c => hn (hs i hi c))).trans (h.block i hi hn)⟩
theorem Mod.of_below {B : Nat} {w w' : World} (h : Below B w w') (hB : w.heap.size ≤ B) (S : Nat → Prop) : Mod S w w' := ⟨h.os, h.tape, h.output, h.size, fun k hk _ => h.block k (by omega)⟩
theorem Mod.below {S : Nat → Prop} {w w' : World} {B : Nat} (h : Mod S w w') (hB : B ≤ w.heap.size) (hs : ∀ k, S k → B ≤ k) : Below B w w' :=
  ⟨h.os, h.tape, h.output, h.size, fun k hk => h.block k (by omega) (fun c => by have := hs k c; omega)⟩
theorem Mod.setCell {S : Nat → Prop} {w : World} {p : Addr} (hp : S p.block) (v : Value) : Mod S w (w.setCell p v) :=
  ⟨rfl, rfl, rfl, by simp [World.setCell], fun k _ hk => Below.heap_setCell _ _ _ _ (fun e => hk (e ▸ hp))⟩
theorem Mod.drewN {S : Nat → Prop} (w : World) (n : Nat) : Mod S w (w.drewN n) := ⟨rfl, rfl, rfl, Nat.le_refl _, fun _ _ _ => rfl⟩
theorem Mod.grown {S : Nat → Prop} {w w' : World} {row : Option Nat} (hg : w.grownBy w' row) (hr : ∀ k, row = some k → S k) : Mod S w w' :=
  ⟨hg.os, hg.tape, hg.output, hg.size, fun k hk hs => hg.block k hk (fun e => hs (hr k e.symm))⟩
theorem Mod.heap {S : Nat → Prop} {w w' : World} (h : Mod S w w') {k : Nat} {o : Obj} (hk : w.heap[k]? = some o) (hs : ¬ S k) : w'.heap[k]? = some o :=
  (h.block k (Array.getElem?_eq_some_iff.1 hk).1 hs).trans hk
theorem Mod.cell {S : Nat → Prop} {w w' : World} (h : Mod S w w') {p : Addr} {v : Value} (hc : w.cell? p = some v) (hs : ¬ S p.block) : w'.cell? p = some v :=
  (World.cell?_of_block (h.block p.block (World.block_lt_of_cell? _ _ hc) hs)).trans hc
theorem Mod.own {S : Nat → Prop} {w w' : World} (h : Mod S w w') {base e size n : Nat} {v : Value} {xs : List Value} (ho : w.ownsRow base e size v n xs) (hs : ∀ g, v.ownBlock = some g → ¬ S g) : w'.ownsRow base e size v n xs := by
  refine ⟨ho.1, ?_⟩
  rcases ho.2 with h2 | ⟨g, cap, cur, hv, hg, hh, r⟩
  · exact .inl h2
  · exact .inr ⟨g, cap, cur, hv, hg, h.heap hh (hs g (by rw [hv]; rfl)), r⟩

/-! ### Rows of integers -/
/-- a slice whose elements are these numbers. -/
def Row (w : World) (a : Option Addr) (xs : List Int) : Prop :=
  ∀ i, i < xs.length → ∃ b off, a = some ⟨b, off, none⟩ ∧ w.cell? ⟨b, off + i, none⟩ = some (.int .i64 (xs.getD i 0))

theorem row_below {w w' : World} {a : Option Addr} {xs : List Int} (h : Row w a xs) (hb : Below w.heap.size w w') : Row w' a xs := by
  intro i hi
  obtain ⟨b, off, e, hc⟩ := h i hi
  exact ⟨b, off, e, (hb.cell (World.block_lt_of_cell? _ _ hc)).trans hc⟩

theorem row_mod {S : Nat → Prop} {w w' : World} {r o : Nat} {xs : List Int} (h : Row w (some ⟨r, o, none⟩) xs) (hm : Mod S w w') (hs : ¬ S r) : Row w' (some ⟨r, o, none⟩) xs := by
  intro i hi
  obtain ⟨b, off, e, hc⟩ := h i hi
  simp at e; obtain ⟨rfl, rfl⟩ := e
  exact ⟨_, _, rfl, hm.cell hc hs⟩
theorem row_drop {w : World} {b off : Nat} {xs : List Int} (h : Row w (some ⟨b, off, none⟩) xs) (k : Nat) : Row w (some ⟨b, off + k, none⟩) (xs.drop k) := by
  intro i hi
  simp only [List.length_drop] at hi
  obtain ⟨b', off', e, hc⟩ := h (k + i) (by omega)
  simp at e; obtain ⟨rfl, rfl⟩ := e
  refine ⟨b, off + k, rfl, ?_⟩
  rw [Nat.add_assoc, hc]
  simp [List.getD]

theorem row_take {w : World} {a : Option Addr} {xs : List Int} (h : Row w a xs) (n : Nat) : Row w a (xs.take n) := by
  intro i hi
  simp only [List.length_take] at hi
  obtain ⟨b, off, e, hc⟩ := h i (by omega)
  refine ⟨b, off, e, ?_⟩
  rw [hc]
  simp [List.getD, show i < n by omega]

theorem row_lit (w : World) (e : TypeId) (o : Nat) (cs : List Int) (hsz : o = w.heap.size) : Row (w.alloc (.cells (cs.map (Value.int .i64)).toArray e)) (some ⟨o, 0, none⟩) cs := by
  intro i hi
  refine ⟨o, 0, rfl, ?_⟩
  subst hsz
  rw [World.cell?_alloc_at _ _ _ _ (by simp)]
  simp [hi]

theorem own_slice {w : World} {base : Nat} {e : TypeId} {size : Nat} {v : Value} {n : Nat} {xs : List Value} (h : w.ownsRow base e size v n xs) (hn : 0 < n) :
    ∃ g cap, v = .slice (some ⟨g, 0, none⟩) n cap ∧ base ≤ g := by
  rcases h.2 with ⟨_, h0⟩ | ⟨g, cap, cur, hv, hb, _⟩
  · omega
  · exact ⟨g, cap, hv, hb⟩

theorem own_ints_len {w : World} {base e n : Nat} {v : Value} {xs : List Int} (h : w.ownsRow base e 1 v n (xs.map (Value.int .i64))) : xs.length = n := by have := h.1; simpa using this

theorem row_of_own {w : World} {base e g cap n : Nat} {xs : List Int} (h : w.ownsRow base e 1 (.slice (some ⟨g, 0, none⟩) n cap) n (xs.map (Value.int .i64))) : Row w (some ⟨g, 0, none⟩) xs := by
  have hl := own_ints_len h
  intro i hi
  refine ⟨g, 0, rfl, ?_⟩
  rw [Nat.zero_add, h.cellAt i (by omega)]
  simp [hi]

/-- what the call owns, as a row; nil or not. -/
theorem own_row {w : World} {base e : Nat} {v : Value} {n : Nat} {xs : List Int} (h : w.ownsRow base e 1 v n (xs.map (Value.int .i64))) :
    ∃ a cap, v = .slice a n cap ∧ xs.length = n ∧ (∀ b off, a = some ⟨b, off, none⟩ → base ≤ b ∧ b < w.heap.size) ∧ (a = none → cap = 0) ∧ n ≤ cap ∧ cap ≤ maxLen ∧ Row w a xs := by
  have hl := own_ints_len h
  rcases h.2 with ⟨rfl, rfl⟩ | ⟨g, cap, cur, rfl, hb, hg, h1, h2, _⟩
  · exact ⟨none, 0, rfl, hl, by simp, fun _ => rfl, Nat.le_refl _, Nat.zero_le _, fun i hi => by omega⟩
  · refine ⟨some ⟨g, 0, none⟩, cap, rfl, hl, ?_, by simp, h1, h2, row_of_own h⟩
    intro b off e; simp at e; obtain ⟨rfl, _⟩ := e; exact ⟨hb, (Array.getElem?_eq_some_iff.1 hg).1⟩

theorem own_below {w w' : World} {base e size : Nat} {v : Value} {n : Nat} {xs : List Value} (h : w.ownsRow base e size v n xs) (hb : Below w.heap.size w w') : w'.ownsRow base e size v n xs := by
  refine ⟨h.1, ?_⟩
  rcases h.2 with h2 | ⟨g, cap, cur, hv, hg, hh, r⟩
  · exact .inl h2
  · exact .inr ⟨g, cap, cur, hv, hg, by rw [hb.block g (Array.getElem?_eq_some_iff.1 hh).1]; exact hh, r⟩

theorem take_snoc {α : Type} (xs : List α) (k : Nat) (d : α) (h : k < xs.length) : xs.take (k + 1) = xs.take k ++ [xs.getD k d] := by
  rw [List.take_succ_eq_append_getElem h]
  simp [h]

theorem uwrap_sub (a b : Int) (ha : -9223372036854775808 ≤ a) (ha2 : a ≤ 9223372036854775807) (hb : -9223372036854775808 ≤ b) (h : b ≤ a) : IntKind.u64.wrap (IntKind.u64.wrap a - IntKind.u64.wrap b) = a - b := by
  simp only [IntKind.wrap, IntKind.signed, IntKind.bits]
  simp
  omega
theorem Mod.cellOf {w : World} (g o : Nat) (v : Value) : Mod (fun k => k = g) w (w.setCell ⟨g, o, none⟩ v) := Mod.setCell (S := fun k => k = g) (p := ⟨g, o, none⟩) rfl v

/-! ### Quiet posts: a call that reads, and may draw -/
def QuietB (b : Bool) (w : World) (e : Ending) (w' : World) : Prop := e = .returned (.bool b) ∧ ∃ n, w' = w.drewN n
def QuietI (n : Int) (w : World) (e : Ending) (w' : World) : Prop := e = .returned (.int .i64 n) ∧ ∃ m, w' = w.drewN m
theorem drewN_zero (w : World) : w.drewN 0 = w := rfl
theorem quietB {a b : Bool} {w w' : World} (h : a = b) (hw : ∃ n, w' = w.drewN n) : QuietB b w (.returned (.bool a)) w' := ⟨by rw [h], hw⟩
theorem quietI {a b : Int} {w w' : World} (h : a = b) (hw : ∃ n, w' = w.drewN n) : QuietI b w (.returned (.int .i64 a)) w' := ⟨by rw [h], hw⟩
end Go.Proofs.Ytcgkdomfbkkboaa
