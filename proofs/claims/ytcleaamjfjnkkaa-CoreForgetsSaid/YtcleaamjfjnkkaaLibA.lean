/- LibA: small texts laid together. -/
import Derived.WalkKit
import Derived.WalkSpells
import Derived.WalkLawsBesides
import Derived.Lib.Hide
import Derived.BigQuiet
import Derived.Deep.QuietTactic
import Derived.Deep.DeepCutAuto
import Derived.Deep.LoopGhost
import Derived.Deep.CutBlock
import Derived.Lib.SmallJoins
import Derived.StillTailTactics
import Derived.RangeFuncBox
import Derived.Laws.AppendOwnNone
import Derived.Maps.AppendAt
import Derived.Deep.Upon
import Derived.Lib.SliceRun
import Derived.Deep.RegionLaw
import Derived.Deep.RegionHeld3
import Derived.Laws.Rows
import Derived.ProofKit
import Derived.OpenShut
import Derived.ChangeOld
import Derived.Below
import Derived.Deep.Slices
/- Small words and laws of no one program: posts of contracts, what the call owns, rows of integers. -/
namespace Go.Proofs.Ytcleaamjfjnkkaa
open Go.RowKit Go.Joins

/-! ### Posts -/
def RetI (n : Int) (w : World) (e : Ending) (w' : World) : Prop := e = .returned (.int .i64 n) ∧ Below w.heap.size w w'
def RetB (b : Bool) (w : World) (e : Ending) (w' : World) : Prop := e = .returned (.bool b) ∧ Below w.heap.size w w'
def SameI (n : Int) (w : World) (e : Ending) (w' : World) : Prop := e = .returned (.int .i64 n) ∧ w = w'
def SameB (b : Bool) (w : World) (e : Ending) (w' : World) : Prop := e = .returned (.bool b) ∧ w = w'
theorem retI {a b : Int} {w w' : World} (h : a = b) (hb : Below w.heap.size w w') : RetI b w (.returned (.int .i64 a)) w' := ⟨by rw [h], hb⟩
theorem retB {a b : Bool} {w w' : World} (h : a = b) (hb : Below w.heap.size w w') : RetB b w (.returned (.bool a)) w' := ⟨by rw [h], hb⟩
theorem sameI {a b : Int} {w : World} (h : a = b) : SameI b w (.returned (.int .i64 a)) w := ⟨by rw [h], rfl⟩
theorem sameB {a b : Bool} {w : World} (h : a = b) : SameB b w (.returned (.bool a)) w := ⟨by rw [h], rfl⟩
theorem grew_trans {a b c : World} (h : Below a.heap.size a b) (k : Below b.heap.size b c) : Below a.heap.size a c := h.trans (k.mono h.size)

/-! ### A world in which some blocks alone may have turned -/
/-- of what was there in w, all but the blocks S is in w' as it was. -/
structure Mod (S : Nat → Prop) (w w' : World) : Prop where
  os : w'.os = w.os
  tape : w'.tape = w.tape
  output : w'.output = w.output
  size : w.heap.size ≤ w'.heap.size
  block : ∀ k, k < w.heap.size → ¬ S k → w'.heap[k]? = w.heap[k]?

theorem Mod.refl (S : Nat → Prop) (w : World) : Mod S w w := ⟨rfl, rfl, rfl, Nat.le_refl _, fun _ _ _ => rfl⟩
theorem Mod.trans {S : Nat → Prop} {a b c : World} (h : Mod S a b) (k : Mod S b c) : Mod S a c :=
  ⟨k.os.trans h.os, k.tape.trans h.tape, k.output.trans h.output, Nat.le_trans h.size k.size, fun i hi hs => (k.block i (Nat.lt_of_lt_of_le hi h.size) hs).trans (h.block i hi hs)⟩
theorem Mod.mono {S S' : Nat → Prop} {a b : World} (h : Mod S a b) (hs : ∀ k, k < a.heap.size → S k → S' k) : Mod S' a b :=
  ⟨h.os, h.tape, h.output, h.size, fun i hi hn => h.block i hi (fun c => hn (hs i hi c))⟩
/-- steps that touch what is new since a, or S, alone. -/
theorem Mod.then {S S' : Nat → Prop} {a b c : World} (h : Mod S a b) (k : Mod S' b c) (hs : ∀ i, i < a.heap.size → S' i → S i) : Mod S a c :=
  ⟨k.os.trans h.os, k.tape.trans h.tape, k.output.trans h.output, Nat.le_trans h.size k.size, fun i hi hn => (k.block i (Nat.lt_of_lt_of_le hi h.size) (fun c => hn (hs i hi c))).trans (h.block i hi hn)⟩
theorem Mod.of_below {B : Nat} {w w' : World} (h : Below B w w') (hB : w.heap.size ≤ B) (S : Nat → Prop) : Mod S w w' := ⟨h.os, h.tape, h.output, h.size, fun k hk _ => h.block k (by omega)⟩
theorem Mod.below {S : Nat → Prop} {w w' : World} {B : Nat} (h : Mod S w w') (hB : B ≤ w.heap.size) (hs : ∀ k, S k → B ≤ k) : Below B w w' :=
  ⟨h.os, h.tape, h.output, h.size, fun k hk => h.block k (by omega) (fun c => by have := hs k c; omega)⟩
theorem Mod.setCell {S : Nat → Prop} {w : World} {p : Addr} (hp : S p.block) (v : Value) : Mod S w (w.setCell p v) :=
  ⟨rfl, rfl, rfl, by simp [World.setCell], fun k _ hk => Below.heap_setCell _ _ _ _ (fun e => hk (e ▸ hp))⟩
theorem Mod.drewN {S : Nat → Prop} (w : World) (n : Nat) : Mod S w (w.drewN n) := ⟨rfl, rfl, rfl, Nat.le_refl _, fun _ _ _ => rfl⟩
theorem Mod.grown {S : Nat → Prop} {w w' : World} {row : Option Nat} (hg : w.grownBy w' row) (hr : ∀ k, row = some k → S k) : Mod S w w' :=
  ⟨hg.os, hg.tape, hg.output, hg.size, fun k hk hs => hg.block k hk (fun e => hs (hr k e.symm))⟩
theorem Mod.heap {S : Nat → Prop} {w w' : World} (h : Mod S w w') {k : Nat} {o : Obj} (hk : w.heap[k]? = some o) (hs : ¬ S k) : w'.heap[k]? = some o :=
  (h.block k (Array.getElem?_eq_some_iff.1 hk).1 hs).trans hk
theorem Mod.cell {S : Nat → Prop} {w w' : World} (h : Mod S w w') {p : Addr} {v : Value} (hc : w.cell? p = some v) (hs : ¬ S p.block) : w'.cell? p = some v :=
  (World.cell?_of_block (h.block p.block (World.block_lt_of_cell? _ _ hc) hs)).trans hc
theorem Mod.own {S : Nat → Prop} {w w' : World} (h : Mod S w w') {base e size n : Nat} {v : Value} {xs : List Value} (ho : w.ownsRow base e size v n xs) (hs : ∀ g, v.ownBlock = some g → ¬ S g) : w'.ownsRow base e size v n xs := by
  refine ⟨ho.1, ?_⟩
  rcases ho.2 with h2 | ⟨g, cap, cur, hv, hg, hh, r⟩
  · exact .inl h2
  · exact .inr ⟨g, cap, cur, hv, hg, h.heap hh (hs g (by rw [hv]; rfl)), r⟩

/-! ### Rows of integers -/
/-- a slice whose elements are these numbers. -/
def Row (w : World) (a : Option Addr) (xs : List Int) : Prop :=
  ∀ i, i < xs.length → ∃ b off, a = some ⟨b, off, none⟩ ∧ w.cell? ⟨b, off + i, none⟩ = some (.int .i64 (xs.getD i 0))

theorem row_below {w w' : World} {a : Option Addr} {xs : List Int} (h : Row w a xs) (hb : Below w.heap.size w w') : Row w' a xs := by
  intro i hi
  obtain ⟨b, off, e, hc⟩ := h i hi
  exact ⟨b, off, e, (hb.cell (World.block_lt_of_cell? _ _ hc)).trans hc⟩

theorem row_mod {S : Nat → Prop} {w w' : World} {r o : Nat} {xs : List Int} (h : Row w (some ⟨r, o, none⟩) xs) (hm : Mod S w w') (hs : ¬ S r) : Row w' (some ⟨r, o, none⟩) xs := by
  intro i hi
  obtain ⟨b, off, e, hc⟩ := h i hi
  simp at e; obtain ⟨rfl, rfl⟩ := e
  exact ⟨_, _, rfl, hm.cell hc hs⟩
theorem row_drop {w : World} {b off : Nat} {xs : List Int} (h : Row w (some ⟨b, off, none⟩) xs) (k : Nat) : Row w (some ⟨b, off + k, none⟩) (xs.drop k) := by
  intro i hi
  simp only [List.length_drop] at hi
  obtain ⟨b', off', e, hc⟩ := h (k + i) (by omega)
  simp at e; obtain ⟨rfl, rfl⟩ := e
  refine ⟨b, off + k, rfl, ?_⟩
  rw [Nat.add_assoc, hc]
  simp [List.getD]

theorem row_take {w : World} {a : Option Addr} {xs : List Int} (h : Row w a xs) (n : Nat) : Row w a (xs.take n) := by
  intro i hi
  simp only [List.length_take] at hi
  obtain ⟨b, off, e, hc⟩ := h i (by omega)
  refine ⟨b, off, e, ?_⟩
  rw [hc]
  simp [List.getD, show i < n by omega]

theorem row_lit (w : World) (e : TypeId) (o : Nat) (cs : List Int) (hsz : o = w.heap.size) : Row (w.alloc (.cells (cs.map (Value.int .i64)).toArray e)) (some ⟨o, 0, none⟩) cs := by
  intro i hi
  refine ⟨o, 0, rfl, ?_⟩
  subst hsz
  rw [World.cell?_alloc_at _ _ _ _ (by simp)]
  simp [hi]

theorem own_slice {w : World} {base : Nat} {e : TypeId} {size : Nat} {v : Value} {n : Nat} {xs : List Value} (h : w.ownsRow base e size v n xs) (hn : 0 < n) :
    ∃ g cap, v = .slice (some ⟨g, 0, none⟩) n cap ∧ base ≤ g := by
  rcases h.2 with ⟨_, h0⟩ | ⟨g, cap, cur, hv, hb, _⟩
  · omega
  · exact ⟨g, cap, hv, hb⟩

theorem own_ints_len {w : World} {base e n : Nat} {v : Value} {xs : List Int} (h : w.ownsRow base e 1 v n (xs.map (Value.int .i64))) : xs.length = n := by have := h.1; simpa using this

theorem row_of_own {w : World} {base e g cap n : Nat} {xs : List Int} (h : w.ownsRow base e 1 (.slice (some ⟨g, 0, none⟩) n cap) n (xs.map (Value.int .i64))) : Row w (some ⟨g, 0, none⟩) xs := by
  have hl := own_ints_len h
  intro i hi
  refine ⟨g, 0, rfl, ?_⟩
  rw [Nat.zero_add, h.cellAt i (by omega)]
  simp [hi]

/-- what the call owns, as a row; nil or not. -/
theorem own_row {w : World} {base e : Nat} {v : Value} {n : Nat} {xs : List Int} (h : w.ownsRow base e 1 v n (xs.map (Value.int .i64))) :
    ∃ a cap, v = .slice a n cap ∧ xs.length = n ∧ (∀ b off, a = some ⟨b, off, none⟩ → base ≤ b ∧ b < w.heap.size) ∧ (a = none → cap = 0) ∧ n ≤ cap ∧ cap ≤ maxLen ∧ Row w a xs := by
  have hl := own_ints_len h
  rcases h.2 with ⟨rfl, rfl⟩ | ⟨g, cap, cur, rfl, hb, hg, h1, h2, _⟩
  · exact ⟨none, 0, rfl, hl, by simp, fun _ => rfl, Nat.le_refl _, Nat.zero_le _, fun i hi => by omega⟩
  · refine ⟨some ⟨g, 0, none⟩, cap, rfl, hl, ?_, by simp, h1, h2, row_of_own h⟩
    intro b off e; simp at e; obtain ⟨rfl, _⟩ := e; exact ⟨hb, (Array.getElem?_eq_some_iff.1 hg).1⟩

theorem own_below {w w' : World} {base e size : Nat} {v : Value} {n : Nat} {xs : List Value} (h : w.ownsRow base e size v n xs) (hb : Below w.heap.size w w') : w'.ownsRow base e size v n xs := by
  refine ⟨h.1, ?_⟩
  rcases h.2 with h2 | ⟨g, cap, cur, hv, hg, hh, r⟩
  · exact .inl h2
  · exact .inr ⟨g, cap, cur, hv, hg, by rw [hb.block g (Array.getElem?_eq_some_iff.1 hh).1]; exact hh, r⟩

theorem take_snoc {α : Type} (xs : List α) (k : Nat) (d : α) (h : k < xs.length) : xs.take (k + 1) = xs.take k ++ [xs.getD k d] := by
  rw [List.take_succ_eq_append_getElem h]
  simp [h]

theorem uwrap_sub (a b : Int) (ha : -9223372036854775808 ≤ a) (ha2 : a ≤ 9223372036854775807) (hb : -9223372036854775808 ≤ b) (h : b ≤ a) : IntKind.u64.wrap (IntKind.u64.wrap a - IntKind.u64.wrap b) = a - b := by
  simp only [IntKind.wrap, IntKind.signed, IntKind.bits]
  simp
  omega
theorem Mod.cellOf {w : World} (g o : Nat) (v : Value) : Mod (fun k => k = g) w (w.setCell ⟨g, o, none⟩ v) := Mod.setCell (S := fun k => k = g) (p := ⟨g, o, none⟩) rfl v

/-! ### Quiet posts: a call that reads, and may draw -/
def QuietB (b : Bool) (w : World) (e : Ending) (w' : World) : Prop := e = .returned (.bool b) ∧ ∃ n, w' = w.drewN n
def QuietI (n : Int) (w : World) (e : Ending) (w' : World) : Prop := e = .returned (.int .i64 n) ∧ ∃ m, w' = w.drewN m
theorem drewN_zero (w : World) : w.drewN 0 = w := rfl
theorem quietB {a b : Bool} {w w' : World} (h : a = b) (hw : ∃ n, w' = w.drewN n) : QuietB b w (.returned (.bool a)) w' := ⟨by rw [h], hw⟩
theorem quietI {a b : Int} {w w' : World} (h : a = b) (hw : ∃ n, w' = w.drewN n) : QuietI b w (.returned (.int .i64 a)) w' := ⟨by rw [h], hw⟩
end Go.Proofs.Ytcleaamjfjnkkaa
/- Lists of elements that take several cells each, in memory: that came in, and that the call owns. -/
namespace Go.Proofs.Ytcleaamjfjnkkaa
open Go.RowKit Go.Joins

/-- an encoding of elements into sz cells each. -/
structure Enc {α : Type} (enc : α → List Value) (sz : Nat) : Prop where
  len : ∀ x, (enc x).length = sz
  one : ∀ x, ∀ u ∈ enc x, u.oneCell' = true
  pos : 0 < sz
section
variable {α : Type} {enc : α → List Value} {sz : Nat}

/-- the cells of a list. -/
def flatOf (enc : α → List Value) (xs : List α) : List Value := xs.flatMap enc
theorem flatOf_length (E : Enc enc sz) (xs : List α) : (flatOf enc xs).length = xs.length * sz := by
  induction xs with
  | nil => simp [flatOf]
  | cons x xs ih => simp only [flatOf, List.flatMap_cons, List.length_append, List.length_cons] at ih ⊢; rw [ih, E.len, Nat.add_mul]; omega
theorem flatOf_append (xs ys : List α) : flatOf enc (xs ++ ys) = flatOf enc xs ++ flatOf enc ys := by simp [flatOf]
theorem flatOf_one (E : Enc enc sz) (xs : List α) : ∀ u ∈ flatOf enc xs, u.oneCell' = true := by
  intro u hu
  obtain ⟨x, _, hx⟩ := List.mem_flatMap.1 hu
  exact E.one x u hx
theorem flatOf_get [Inhabited α] (E : Enc enc sz) (xs : List α) : ∀ (i j : Nat), j < sz → i < xs.length → (flatOf enc xs)[i * sz + j]? = (enc (xs.getD i default))[j]? := by
  induction xs with
  | nil => intro i j _ hi; simp at hi
  | cons x xs ih =>
    intro i j hj hi
    have hl := E.len x
    cases i with
    | zero =>
      simp only [flatOf, List.flatMap_cons]
      rw [List.getElem?_append_left (by omega)]
      simp
    | succ i =>
      have := ih i j hj (by simpa using hi)
      simp only [flatOf, List.flatMap_cons] at this ⊢
      have e : (i + 1) * sz + j = sz + (i * sz + j) := by rw [Nat.add_mul]; omega
      rw [List.getElem?_append_right (by omega)]
      rw [e, hl, Nat.add_sub_cancel_left, this]
      simp
theorem flatOf_take (E : Enc enc sz) (xs : List α) (n : Nat) : flatOf enc (xs.take n) = (flatOf enc xs).take (n * sz) := by
  have h := flatOf_append (enc := enc) (xs.take n) (xs.drop n)
  rw [List.take_append_drop] at h
  by_cases hn : n ≤ xs.length
  · have hl : (flatOf enc (xs.take n)).length = n * sz := by rw [flatOf_length E, List.length_take, Nat.min_eq_left hn]
    rw [h, ← hl, List.take_left]
  · rw [List.take_of_length_le (by omega), List.take_of_length_le]
    rw [flatOf_length E]
    exact Nat.mul_le_mul_right _ (by omega)
theorem flatOf_drop (E : Enc enc sz) (xs : List α) (n : Nat) (hn : n ≤ xs.length) : flatOf enc (xs.drop n) = (flatOf enc xs).drop (n * sz) := by
  have h := flatOf_append (enc := enc) (xs.take n) (xs.drop n)
  rw [List.take_append_drop] at h
  have hl : (flatOf enc (xs.take n)).length = n * sz := by rw [flatOf_length E, List.length_take, Nat.min_eq_left hn]
  rw [h, ← hl, List.drop_left]

/-- cells that lie one behind the other. -/
def CellsAt (w : World) (b o : Nat) (vs : List Value) : Prop := ∀ j u, vs[j]? = some u → w.cell? ⟨b, o + j, none⟩ = some u
theorem CellsAt.below {w w' : World} {b o : Nat} {vs : List Value} (h : CellsAt w b o vs) (hb : Below w.heap.size w w') : CellsAt w' b o vs := fun j u hu =>
  (hb.cell (p := ⟨b, o + j, none⟩) (World.block_lt_of_cell? _ _ (h j u hu))).trans (h j u hu)
theorem CellsAt.mod {S : Nat → Prop} {w w' : World} {b o : Nat} {vs : List Value} (h : CellsAt w b o vs) (hm : Mod S w w') (hs : ¬ S b) : CellsAt w' b o vs := fun j u hu => hm.cell (h j u hu) hs

/-- elements of a slice. -/
def Lst [Inhabited α] (enc : α → List Value) (sz : Nat) (w : World) (a : Option Addr) (xs : List α) : Prop :=
  ∀ i, i < xs.length → ∃ b off, a = some ⟨b, off, none⟩ ∧ CellsAt w b (off + i * sz) (enc (xs.getD i default))
theorem Lst.below [Inhabited α] {w w' : World} {a : Option Addr} {xs : List α} (h : Lst enc sz w a xs) (hb : Below w.heap.size w w') : Lst enc sz w' a xs := by
  intro i hi
  obtain ⟨b, off, e, hc⟩ := h i hi
  exact ⟨b, off, e, hc.below hb⟩
theorem Lst.take [Inhabited α] {w : World} {a : Option Addr} {xs : List α} (h : Lst enc sz w a xs) (n : Nat) : Lst enc sz w a (xs.take n) := by
  intro i hi
  simp only [List.length_take] at hi
  obtain ⟨b, off, e, hc⟩ := h i (by omega)
  refine ⟨b, off, e, ?_⟩
  have : (xs.take n).getD i default = xs.getD i default := by simp [List.getD_eq_getElem?_getD, show i < n by omega]
  rw [this]; exact hc
theorem Lst.drop [Inhabited α] {w : World} {b off : Nat} {xs : List α} (h : Lst enc sz w (some ⟨b, off, none⟩) xs) (n : Nat) : Lst enc sz w (some ⟨b, off + n * sz, none⟩) (xs.drop n) := by
  intro i hi
  simp only [List.length_drop] at hi
  obtain ⟨b', off', e, hc⟩ := h (n + i) (by omega)
  simp at e; obtain ⟨rfl, rfl⟩ := e
  refine ⟨b, off + n * sz, rfl, ?_⟩
  have : (xs.drop n).getD i default = xs.getD (n + i) default := by simp [List.getD_eq_getElem?_getD]
  rw [this, Nat.add_assoc, ← Nat.add_mul]; exact hc
theorem Lst.news [Inhabited α] (E : Enc enc sz) {w : World} {ad : Addr} {xs : List α} (h : Lst enc sz w (some ad) xs) : ∀ j u, (flatOf enc xs)[j]? = some u → w.cell? (ad.add j) = some u := by
  intro j u hu
  have hj : j < xs.length * sz := by rw [← flatOf_length E]; exact (List.getElem?_eq_some_iff.1 hu).1
  have hd : sz * (j / sz) + j % sz = j := Nat.div_add_mod j sz
  have hlt : j / sz < xs.length := by rw [Nat.div_lt_iff_lt_mul E.pos]; exact hj
  have hm : j % sz < sz := Nat.mod_lt _ E.pos
  obtain ⟨b, off, e, g⟩ := h (j / sz) hlt
  simp at e
  subst e
  rw [Go.WideShapes.add_plain]
  have hf := flatOf_get E xs (j / sz) (j % sz) hm hlt
  have hd2 : j / sz * sz + j % sz = j := by rw [Nat.mul_comm]; exact hd
  rw [hd2, hu] at hf
  have := g (j % sz) u hf.symm
  rw [show off + j = off + j / sz * sz + j % sz by omega]
  exact this
/-- a slice that may be cut and appended. -/
structure Sli [Inhabited α] (enc : α → List Value) (sz : Nat) (w : World) (a : Option Addr) (cap : Nat) (xs : List α) : Prop where
  lst : Lst enc sz w a xs
  nil0 : a = none → cap = 0
  len : xs.length ≤ cap
  capm : cap ≤ maxLen
  plain : ∀ ad, a = some ad → ∃ b off, ad = ⟨b, off, none⟩
theorem Sli.below [Inhabited α] {w w' : World} {a : Option Addr} {cap : Nat} {xs : List α} (h : Sli enc sz w a cap xs) (hb : Below w.heap.size w w') : Sli enc sz w' a cap xs := ⟨h.lst.below hb, h.nil0, h.len, h.capm, h.plain⟩
theorem Sli.take [Inhabited α] {w : World} {a : Option Addr} {cap : Nat} {xs : List α} (h : Sli enc sz w a cap xs) (n : Nat) : Sli enc sz w a cap (xs.take n) := ⟨h.lst.take n, h.nil0, by have := h.len; simp; omega, h.capm, h.plain⟩
theorem Sli.nil [Inhabited α] (w : World) : Sli enc sz w none 0 ([] : List α) := ⟨fun i hi => by simp at hi, fun _ => rfl, Nat.zero_le _, Nat.zero_le _, fun _ e => by cases e⟩
theorem Sli.empty [Inhabited α] {w : World} {cap : Nat} {xs : List α} (h : Sli enc sz w none cap xs) : xs = [] ∧ cap = 0 := by
  have h0 := h.nil0 rfl
  have := h.len
  exact ⟨List.eq_nil_of_length_eq_zero (by omega), h0⟩

/-- the call owns these elements. -/
def OwnL (enc : α → List Value) (sz : Nat) (e : TypeId) (w : World) (base : Nat) (v : Value) (xs : List α) : Prop := w.ownsRow base e sz v xs.length (flatOf enc xs)
variable {e : TypeId} {w : World} {base : Nat} {v : Value} {xs : List α}
theorem ownL_nil (w : World) (base : Nat) : OwnL enc sz e w base (.slice none 0 0) [] := World.ownsRow_nil _ _ _ _
theorem OwnL.mono {base' : Nat} (h : OwnL enc sz e w base v xs) (hb : base' ≤ base) : OwnL enc sz e w base' v xs := by
  refine ⟨h.1, ?_⟩
  rcases h.2 with h2 | ⟨g, cap, cur, e1, e2, r⟩
  · exact .inl h2
  · exact .inr ⟨g, cap, cur, e1, by omega, r⟩
theorem OwnL.below {w' : World} (h : OwnL enc sz e w base v xs) (hb : Below w.heap.size w w') : OwnL enc sz e w' base v xs := own_below h hb
theorem OwnL.mod {S : Nat → Prop} {w' : World} (h : OwnL enc sz e w base v xs) (hm : Mod S w w') (hs : ∀ g, v.ownBlock = some g → ¬ S g) : OwnL enc sz e w' base v xs := hm.own h hs
theorem OwnL.sli [Inhabited α] (E : Enc enc sz) (h : OwnL enc sz e w base v xs) : ∃ a cap, v = .slice a xs.length cap ∧ Sli enc sz w a cap xs ∧ (∀ b off, a = some ⟨b, off, none⟩ → base ≤ b ∧ b < w.heap.size) := by
  rcases h.2 with ⟨rfl, h0⟩ | ⟨g, cap, cur, rfl, hb, hg, h1, h2, _⟩
  · have : xs = [] := List.eq_nil_of_length_eq_zero h0
    subst this
    exact ⟨none, 0, rfl, Sli.nil _, by simp⟩
  · refine ⟨some ⟨g, 0, none⟩, cap, rfl, ⟨fun i hi => ⟨g, 0, rfl, fun j u hu => ?_⟩, by simp, h1, h2, fun ad e => by simp at e; exact ⟨_, _, e.symm⟩⟩, fun b off e => ?_⟩
    · have hj : j < sz := by rw [← E.len (xs.getD i default)]; exact (List.getElem?_eq_some_iff.1 hu).1
      have := h.cells (g := g) rfl (i * sz + j) u (by rw [flatOf_get E xs i j hj hi]; exact hu)
      rw [Go.WideShapes.add_plain] at this
      rw [Nat.add_assoc]
      exact this
    · simp at e; obtain ⟨rfl, _⟩ := e; exact ⟨hb, (Array.getElem?_eq_some_iff.1 hg).1⟩
theorem OwnL.slix [Inhabited α] (E : Enc enc sz) {n c : Nat} {a : Option Addr} (h : OwnL enc sz e w base (.slice a n c) xs) : Sli enc sz w a c xs := by
  obtain ⟨a', c', e, hs, _⟩ := h.sli E
  simp at e
  obtain ⟨rfl, _, rfl⟩ := e
  exact hs
theorem OwnL.form (h : OwnL enc sz e w base v xs) (h0 : 0 < xs.length) : ∃ g cap, v = .slice (some ⟨g, 0, none⟩) xs.length cap ∧ base ≤ g ∧ g < w.heap.size := by
  rcases h.2 with ⟨_, e⟩ | ⟨g, cap, cur, e, hb, hg, _⟩
  · omega
  · exact ⟨g, cap, e, hb, (Array.getElem?_eq_some_iff.1 hg).1⟩
theorem OwnL.block (h : OwnL enc sz e w base v xs) {g : Nat} (hg : v.ownBlock = some g) : base ≤ g ∧ ∃ cur, w.heap[g]? = some (.cells cur e (0, 0)) := by
  rcases h.2 with ⟨rfl, _⟩ | ⟨g', cap, cur, rfl, hb, hh, _⟩
  · simp [Value.ownBlock] at hg
  · simp [Value.ownBlock] at hg; subst hg; exact ⟨hb, cur, hh⟩
/-- a list that was just laid. -/
theorem sli_lit [Inhabited α] (E : Enc enc sz) (w : World) (xs : List α) (n o : Nat) (t : TypeId) (ho : o = w.heap.size) (hn : xs.length = n) (hm : n ≤ maxLen) : Sli enc sz (w.alloc (.cells (flatOf enc xs).toArray t)) (some ⟨o, 0, none⟩) n xs := by
  subst ho hn
  refine ⟨fun i hi => ⟨_, 0, rfl, fun j u hu => ?_⟩, by simp, Nat.le_refl _, hm, fun ad e => by simp at e; exact ⟨_, _, e.symm⟩⟩
  have hj : j < sz := by rw [← E.len (xs.getD i default)]; exact (List.getElem?_eq_some_iff.1 hu).1
  rw [Nat.zero_add, World.cell?_alloc_at _ _ _ _ rfl]
  have := flatOf_get E xs i j hj hi
  rw [hu] at this
  simpa using this

/-- what the table says of an element's type. -/
structure Tab (P : Program) (t e : TypeId) (sz bytes : Nat) : Prop where
  und : P.underlying t = some (.slice e)
  inf : ∃ i z, P.info? e = some i ∧ i.zero = some z ∧ i.size = sz ∧ i.bytes = bytes ∧ z.cells.size = sz
/-- append of elements, nil or not, onto a row that the call owns; where the row lies then. -/
theorem run_app [Inhabited α] (E : Enc enc sz) {P : Program} {t ty : TypeId} {bytes : Nat} (T : Tab P t e sz bytes) (hown : OwnL enc sz e w base v xs)
    (sa : Option Addr) (c : Nat) (ys : List α) (hE : Lst enc sz w sa ys) (hnone : sa = none → c = 0)
    (hb : (xs.length + ys.length) * bytes ≤ 140737488355328) (hm : xs.length + ys.length ≤ maxLen) (hbase : base ≤ w.heap.size) :
    ∃ v' w', (Builtin.append_ #[t, t] ty #[v, .slice sa ys.length c]).run P w = .ok v' w' ∧ OwnL enc sz e w' base v' (xs ++ ys) ∧ w.grownBy w' v.ownBlock ∧ (∀ g, v'.ownBlock = some g → v.ownBlock = some g ∨ w.heap.size ≤ g) := by
  obtain ⟨i, z, hi, hz, h1, h2, h3⟩ := T.inf
  have fx : (flatOf enc xs).length = xs.length * sz := flatOf_length E xs
  have fy : (flatOf enc ys).length = ys.length * sz := flatOf_length E ys
  cases sa with
  | none =>
    obtain rfl := hnone rfl
    have h0 : ys = [] := by
      cases ys with
      | nil => rfl
      | cons y ys => obtain ⟨_, _, e, _⟩ := hE 0 (by simp); cases e
    subst h0
    exact ⟨v, w, run_append_owned_none (P := P) w base t ty e i sz T.und hi v xs.length (flatOf enc xs) hown, by rw [List.append_nil]; exact hown, ⟨rfl, rfl, rfl, Nat.le_refl _, fun _ _ _ => rfl⟩, fun g hg => .inl hg⟩
  | some ad =>
    obtain ⟨v', w', hrun, ho, hg, _, hat⟩ := run_append_own_at (P := P) w base t ty e i z sz bytes T.und hi hz h1 h2 h3 E.pos v xs.length (flatOf enc xs) hown ad ys.length c (flatOf enc ys) fy (hE.news E) (flatOf_one E ys) hm hb hbase
    refine ⟨v', w', hrun, by unfold OwnL; rw [List.length_append, flatOf_append]; exact ho, hg, fun g hvg => ?_⟩
    rcases hat with h | h
    · exact .inl (h ▸ hvg)
    · rw [h] at hvg; cases hvg; exact .inr (Nat.le_refl _)
theorem wp_app [Inhabited α] (E : Enc enc sz) {P : Program} {t : TypeId} {bytes : Nat} (T : Tab P t e sz bytes) {o : Oper} {a : Act} {K : Act → World → Prop} {Q : Exit → Act → World → Prop} (s x : Operand)
    (ho : o.op = .call { callee := .builtin .append, args := #[s, x], argTypes := #[t, t] }) (hs : a.eval s = v) (hown : OwnL enc sz e w base v xs)
    (sa : Option Addr) (n c : Nat) (ys : List α) (hn : ys.length = n) (hx : a.eval x = .slice sa n c) (hE : Lst enc sz w sa ys) (hnone : sa = none → c = 0)
    (hb : (xs.length + ys.length) * bytes ≤ 140737488355328) (hm : xs.length + ys.length ≤ maxLen) (hbase : base ≤ w.heap.size)
    (h : ∀ v' w', OwnL enc sz e w' base v' (xs ++ ys) → w.grownBy w' v.ownBlock → (∀ g, v'.ownBlock = some g → v.ownBlock = some g ∨ w.heap.size ≤ g) → K (a.put o.dst v') w') : o.wp P a w K Q := by
  subst hn
  obtain ⟨v', w', hrun, h2, h3, h4⟩ := run_app (ty := o.type) E T hown sa c ys hE hnone hb hm hbase
  unfold Oper.wp execOp
  simp only [ho, resolve, invoke, builtin, Sem.run_bind, Sem.run_pure, Result.andThen_ok, List.map_toArray, List.map_cons, List.map_nil, hs, hx, hrun]
  exact h v' w' h2 h3 h4
theorem wpList_app [Inhabited α] (E : Enc enc sz) {P : Program} {t : TypeId} {bytes : Nat} (T : Tab P t e sz bytes) {ops : Array Oper} {rest : List Oper} {o : Oper} {a : Act} {Q : Exit → Act → World → Prop} (hgd : o.guard = none) (s x : Operand)
    (ho : o.op = .call { callee := .builtin .append, args := #[s, x], argTypes := #[t, t] }) (hs : a.eval s = v) (hown : OwnL enc sz e w base v xs)
    (sa : Option Addr) (n c : Nat) (ys : List α) (hn : ys.length = n) (hx : a.eval x = .slice sa n c) (hE : Lst enc sz w sa ys) (hnone : sa = none → c = 0)
    (hb : (xs.length + ys.length) * bytes ≤ 140737488355328) (hm : xs.length + ys.length ≤ maxLen) (hbase : base ≤ w.heap.size)
    (h : ∀ v' w', OwnL enc sz e w' base v' (xs ++ ys) → w.grownBy w' v.ownBlock → (∀ g, v'.ownBlock = some g → v.ownBlock = some g ∨ w.heap.size ≤ g) → wpList P ops Q rest (a.put o.dst v') w') : wpList P ops Q (o :: rest) a w :=
  wpList_plain hgd fun _ hK => wp_app E T s x ho hs hown sa n c ys hn hx hE hnone hb hm hbase fun v' w' h2 h3 h4 => hK _ _ (h v' w' h2 h3 h4)
/-- .. as a step of a region that draws its order. -/
theorem step_app [Inhabited α] (E : Enc enc sz) {P : Program} {t : TypeId} {bytes : Nat} (T : Tab P t e sz bytes) {ops : Array Oper} {o : Oper} {a : Act} {K : Act → World → Prop} {Q : Exit → Act → World → Prop} {X : Prop} (hg : o.guard = none) (s x : Operand)
    (ho : o.op = .call { callee := .builtin .append, args := #[s, x], argTypes := #[t, t] }) (hs : a.eval s = v) (hown : OwnL enc sz e w base v xs)
    (sa : Option Addr) (n c : Nat) (ys : List α) (hn : ys.length = n) (hx : a.eval x = .slice sa n c) (hE : Lst enc sz w sa ys) (hnone : sa = none → c = 0)
    (hb : (xs.length + ys.length) * bytes ≤ 140737488355328) (hm : xs.length + ys.length ≤ maxLen) (hbase : base ≤ w.heap.size)
    (h : ∀ v' w', OwnL enc sz e w' base v' (xs ++ ys) → w.grownBy w' v.ownBlock → (∀ g, v'.ownBlock = some g → v.ownBlock = some g ∨ w.heap.size ≤ g) → K (a.put o.dst v') w') :
    if Region.wanted o (yielded ops a.tmps) = true then o.wp P a w K Q else X := by
  have hw : Region.wanted o (yielded ops a.tmps) = true := by simp [Region.wanted, hg]
  rw [if_pos hw]
  exact wp_app E T s x ho hs hown sa n c ys hn hx hE hnone hb hm hbase h
end
end Go.Proofs.Ytcleaamjfjnkkaa
/- A row that the call owns, cut at its end; cells that are written behind it; clear. -/
namespace Go.Proofs.Ytcleaamjfjnkkaa
open Go.RowKit Go.Joins

theorem setCell_blk' {w : World} {p i : Nat} {cs : Array Value} {t : TypeId} {v : Value} (h : w.heap[p]? = some (.cells cs t (0, 0))) : (w.setCell ⟨p, i, none⟩ v).heap[p]? = some (.cells (cs.setIfInBounds i v) t (0, 0)) := by
  simp only [World.setCell]
  rw [Array.getElem?_modify, if_pos rfl, h]
  rfl
theorem setCells_blk {b : Nat} {t : TypeId} : ∀ (vs : List Value) (o : Nat) (w : World) (cs : Array Value), w.heap[b]? = some (.cells cs t (0, 0)) →
    ∃ cs', (w.setCells b o vs).heap[b]? = some (.cells cs' t (0, 0)) ∧ cs'.size = cs.size ∧ ∀ i, i < o → cs'[i]? = cs[i]?
  | [], _, _, cs, h => ⟨cs, h, rfl, fun _ _ => rfl⟩
  | v :: r, o, w, cs, h => by
    obtain ⟨cs', h1, h2, h3⟩ := setCells_blk r (o + 1) _ _ (setCell_blk' (i := o) (v := v) h)
    refine ⟨cs', h1, by simpa using h2, fun i hi => ?_⟩
    rw [h3 i (by omega), Array.getElem?_setIfInBounds_ne (by omega)]
theorem setCells_mod {b : Nat} : ∀ (vs : List Value) (o : Nat) (w : World), Mod (fun k => k = b) w (w.setCells b o vs)
  | [], _, w => Mod.refl _ w
  | v :: r, o, _ => (Mod.cellOf b o v).trans (setCells_mod r (o + 1) _)
section
variable {α : Type} {enc : α → List Value} {sz : Nat} {e : TypeId} {w : World} {base g n m cap : Nat} {xs : List α}
theorem OwnL.prefix (E : Enc enc sz) (h : OwnL enc sz e w base (.slice (some ⟨g, 0, none⟩) n cap) xs) (hm : m ≤ xs.length) : OwnL enc sz e w base (.slice (some ⟨g, 0, none⟩) m cap) (xs.take m) := by
  have hl : (xs.take m).length = m := by simp; omega
  refine ⟨flatOf_length E _, .inr ?_⟩
  rcases h.2 with ⟨e, _⟩ | ⟨g', cap', cur, e1, hb, hg, h1, h2, h3, h4⟩
  · cases e
  · simp at e1
    obtain ⟨rfl, rfl, rfl⟩ := e1
    refine ⟨g, cap, cur, by rw [hl], hb, hg, by omega, h2, h3, ?_⟩
    rw [flatOf_take E, ← h4, List.take_take, hl, Nat.min_eq_left (Nat.mul_le_mul_right _ hm)]
theorem OwnL.setCells (h : OwnL enc sz e w base (.slice (some ⟨g, 0, none⟩) n cap) xs) (o : Nat) (ho : xs.length * sz ≤ o) (vs : List Value) : OwnL enc sz e (w.setCells g o vs) base (.slice (some ⟨g, 0, none⟩) n cap) xs := by
  refine ⟨h.1, .inr ?_⟩
  rcases h.2 with ⟨e, _⟩ | ⟨g', cap', cur, e1, hb, hg, h1, h2, h3, h4⟩
  · cases e
  · simp at e1
    obtain ⟨rfl, rfl, rfl⟩ := e1
    obtain ⟨cs', c1, c2, c3⟩ := setCells_blk vs o w cur hg
    refine ⟨g, cap, cs', rfl, hb, c1, h1, h2, by omega, ?_⟩
    rw [← h4]
    apply List.ext_getElem?
    intro i
    by_cases hi : i < xs.length * sz
    · rw [List.getElem?_take_of_lt hi, List.getElem?_take_of_lt hi]
      have := c3 i (by omega)
      simpa using this
    · rw [List.getElem?_eq_none (by simp; omega), List.getElem?_eq_none (by simp; omega)]
end
/-- clear of one element. -/
theorem run_clear_one {P : Program} (w : World) (t e ty : TypeId) (z : Value) (zs : List Value) (ht : P.underlying t = some (.slice e)) (hv : ∀ w, (zeroValue e).run P w = .ok z w) (hz : z.cells.toList = zs) (h1 : ∀ v ∈ zs, v.oneCell' = true) (b o c : Nat)
    (hc : ∀ j, j < zs.length → (w.cell? ⟨b, o + j, none⟩).isSome = true) (hf : ∀ j, j < zs.length → w.frozen? ⟨b, o + j, none⟩ = false) :
    (Builtin.clear_ #[t] ty #[.slice (some ⟨b, o, none⟩) 1 c]).run P w = .ok (.tuple #[]) (w.setCells b o zs) := by
  have hzc : (Builtin.zeroCells z.cells 1).toList = zs := by
    rw [← hz]
    apply List.ext_getElem?
    intro i
    simp [Builtin.zeroCells]
    by_cases hi : i < z.cells.size
    · simp [hi, Nat.mod_eq_of_lt hi]
    · simp [hi]
  have hst := run_storeCells_cells (P := P) b o zs 0 w (by simpa using hc) (by simpa using hf) h1
  simp only [Nat.add_zero] at hst
  simp [Builtin.clear_, run_underlying ht, hv, hzc, hst]
end Go.Proofs.Ytcleaamjfjnkkaa
/- A region that draws its order, whose calls make memory, and whose own operations only read: one walk, in the order of the text. -/
namespace Go.Proofs.Ytcleaamjfjnkkaa
open Go.RowKit Go.Joins

/-- a world that holds all that w0 held, as it was. -/
structure Later (w0 : World) where
  w : World
  h : Below w0.heap.size w0 w
instance (w0 : World) : Nonempty (Later w0) := ⟨⟨w0, Below.refl _ _⟩⟩
theorem Later.cell {w0 : World} {p : Addr} {v : Value} (h : w0.cell? p = some v) (x : Later w0) : x.w.cell? p = some v := (x.h.cell (World.block_lt_of_cell? _ _ h)).trans h
theorem wp_region_later_lit {P : Program} {id : Nat} {Q : Exit → Act → World → Prop} {a : Act} {w : World} {l : List Oper} (hm : P.follows .mixedOrders = true) (hB : Region.lexB .any l.toArray = true)
    (h : wpQuiet P l.toArray (fun w' => ∃ x : Later w, w' = x.w) (fun a' => ∀ w', (∃ x : Later w, w' = x.w) → Q .normal a' w') l a) : (Code.region id l.toArray true).wp P Q a w :=
  wp_region_quiet (C := fun w' => ∃ x : Later w, w' = x.w) hm hB ⟨⟨w.drew, (Below.refl _ w).drew⟩, rfl⟩ (by simpa using h)
/-- a call's contract, met in a later world. -/
theorem Calls.later {P : Program} {f : FuncId} {args : Array Value} {w0 : World} {v : Value} {x : Later w0} (h : Calls P f args x.w fun e w' => e = .returned v ∧ Below x.w.heap.size x.w w') :
    Calls P f args x.w fun e w'' => e = .returned v ∧ ∃ y : Later w0, w'' = y.w :=
  h.mono fun _ w' ⟨he, hb⟩ => ⟨he, ⟨w', x.h.trans (hb.mono x.h.size)⟩, rfl⟩
theorem Calls.laterB {P : Program} {f : FuncId} {args : Array Value} {w0 : World} {b : Bool} {x : Later w0} (h : Calls P f args x.w (RetB b x.w)) :
    Calls P f args x.w fun e w'' => e = .returned (.bool b) ∧ ∃ y : Later w0, w'' = y.w := Calls.later h
theorem Calls.laterI {P : Program} {f : FuncId} {args : Array Value} {w0 : World} {b : Int} {x : Later w0} (h : Calls P f args x.w (RetI b x.w)) :
    Calls P f args x.w fun e w'' => e = .returned (.int .i64 b) ∧ ∃ y : Later w0, w'' = y.w := Calls.later h
end Go.Proofs.Ytcleaamjfjnkkaa
/- A region that draws its order and makes memory: of each operation ONE RELATION between what it yields and the world, which lasts while the world only grows. Then no order is walked: each operation is met once, alone. -/
namespace Go.Proofs.Ytcleaamjfjnkkaa
open Go.RowKit Go.Joins

/-- what one operation, carried out in the world w, has yielded, stands in R to the world behind it. -/
def relUpon (P : Program) (w : World) (R : Value → World → Prop) : Result Next → Prop
  | .ok (.value u) w' => Below w.heap.size w w' ∧ R u w'
  | .ok .skip w' => Below w.heap.size w w' ∧ R undef w'
  | .ok (.enter f args) w' => Calls P f args w' (fun e w'' => ∃ v, e = .returned v ∧ Below w.heap.size w w'' ∧ R v w'')
  | _ => False
/-- operation o in the state a and the world w. -/
def RelStep (P : Program) (ops : Array Oper) (o : Oper) (a : Act) (w : World) (R : Value → World → Prop) : Prop :=
  if Region.wanted o (yielded ops a.tmps) = true then relUpon P w R ((execOp a.eval o).run P w) else R undef w
/-- the temporaries are written once each, and lie in the frame; each operation waits for earlier ones only. -/
def relB (ops : Array Oper) (n : Nat) : Bool :=
  (List.range ops.size).all fun i => match ops[i]? with
    | none => true
    | some o => (o.after.all fun e => decide (e.on < i)) && match o.dst with
      | none => true
      | some d => decide (d < n) && (List.range ops.size).all fun j => j == i || (ops[j]?).bind (·.dst) != some d
theorem relB_spec {ops : Array Oper} {n : Nat} (h : relB ops n = true) {i : Nat} {o : Oper} (ho : ops[i]? = some o) :
    (∀ e ∈ o.after, e.on < i) ∧ ∀ d, o.dst = some d → d < n ∧ ∀ j o', ops[j]? = some o' → o'.dst = some d → j = i := by
  have hi : i < ops.size := by
    rcases Nat.lt_or_ge i ops.size with h | h
    · exact h
    · rw [Array.getElem?_eq_none h] at ho; cases ho
  unfold relB at h
  rw [List.all_eq_true] at h
  have h1 := h i (List.mem_range.2 hi)
  simp only [ho, Bool.and_eq_true, Array.all_eq_true', decide_eq_true_eq] at h1
  refine ⟨fun e he => h1.1 e he, fun d hd => ?_⟩
  have h2 := h1.2
  simp only [hd, Bool.and_eq_true, decide_eq_true_eq, List.all_eq_true, List.mem_range] at h2
  refine ⟨h2.1, fun j o' hj hd' => ?_⟩
  have hjl : j < ops.size := by
    rcases Nat.lt_or_ge j ops.size with h | h
    · exact h
    · rw [Array.getElem?_eq_none h] at hj; cases hj
  have h3 := h2.2 j hjl
  simp [hj, hd'] at h3
  exact h3
/-- how many of the first n are not listed. -/
def unl (listed : Array Bool) : Nat → Nat
  | 0 => 0
  | n + 1 => unl listed n + if listed.getD n true = true then 0 else 1
theorem unl_zero {listed : Array Bool} : ∀ {n : Nat}, unl listed n = 0 → ∀ i, i < n → listed.getD i true = true
  | 0, _, _, hi => by omega
  | n + 1, h, i, hi => by
    unfold unl at h
    by_cases e : i = n
    · subst e
      by_cases h2 : listed.getD i true = true
      · exact h2
      · rw [if_neg h2] at h; omega
    · exact unl_zero (n := n) (by omega) i (by omega)
theorem unl_same {listed : Array Bool} {i : Nat} : ∀ {n : Nat}, n ≤ i → unl (listed.setIfInBounds i true) n = unl listed n
  | 0, _ => rfl
  | n + 1, h => by
    unfold unl
    rw [unl_same (by omega), getD_set_ne true (by omega)]
theorem unl_set {listed : Array Bool} {i : Nat} (hi : listed.getD i true = false) : ∀ {n : Nat}, i < n → unl (listed.setIfInBounds i true) n + 1 = unl listed n
  | 0, h => by omega
  | n + 1, h => by
    unfold unl
    by_cases e : i = n
    · subst e
      rw [unl_same (Nat.le_refl _), hi]
      have hlt : i < listed.size := by
        rcases Nat.lt_or_ge i listed.size with h' | h'
        · exact h'
        · simp [Array.getElem?_eq_none h'] at hi
      have : (listed.setIfInBounds i true).getD i true = true := by simp [hlt]
      rw [this]
      simp
    · rw [getD_set_ne true e]
      have := unl_set hi (n := n) (by omega)
      omega
theorem unl_all : ∀ n m, n ≤ m → unl (Array.replicate m false) n = n
  | 0, _, _ => rfl
  | n + 1, m, h => by
    unfold unl
    rw [unl_all n m (by omega)]
    simp [show n < m by omega]

/-- the temporaries are written, one behind the other. -/
def putsFrom (vs : Nat → Value) : List Oper → Nat → Act → Act
  | [], _, a => a
  | o :: l, k, a => putsFrom vs l (k + 1) (a.put o.dst (vs k))
theorem put_size (a : Act) (d : Option Tmp) (v : Value) : (a.put d v).tmps.size = a.tmps.size := by cases d <;> simp [Act.put]
theorem put_defers (a : Act) (d : Option Tmp) (v : Value) : (a.put d v).defers = a.defers := by cases d <;> rfl
theorem put_get_ne (a : Act) (d : Option Tmp) (v : Value) (t : Nat) (h : d ≠ some t) : (a.put d v).tmps[t]? = a.tmps[t]? := by
  cases d with
  | none => rfl
  | some d => simp [Act.put]; rw [Array.getElem?_setIfInBounds_ne (fun e => h (by rw [e]))]
theorem put_get_eq (a : Act) (d : Tmp) (v : Value) (h : d < a.tmps.size) : (a.put (some d) v).tmps[d]? = some v := by simp [Act.put, h]
theorem eval_get {a : Act} {d : Nat} {v : Value} (h : a.tmps[d]? = some v) : a.eval (.tmp d) = v := by simp [Act.eval, h]
theorem eval_get' {a : Act} {d : Nat} (h : d < a.tmps.size) : a.tmps[d]? = some (a.eval (.tmp d)) := by simp [Act.eval, h]
theorem puts_eq (vs : Nat → Value) (a' : Act) : ∀ (l : List Oper) (k : Nat) (a : Act), a'.tmps.size = a.tmps.size → a'.defers = a.defers →
    (∀ (t : Nat), (∀ o ∈ l, o.dst ≠ some t) → a'.tmps[t]? = a.tmps[t]?) → (∀ (i : Nat) (o : Oper) (d : Tmp), l[i]? = some o → o.dst = some d → d < a.tmps.size ∧ vs (k + i) = a'.eval (.tmp d)) → putsFrom vs l k a = a'
  | [], _, a, hs, hd, hf, _ => by
    obtain ⟨t, df⟩ := a
    obtain ⟨t', df'⟩ := a'
    simp only at hs hd hf
    simp only [putsFrom, Act.mk.injEq]
    refine ⟨?_, hd.symm⟩
    apply Array.ext_getElem?
    intro i
    exact (hf i (by simp)).symm
  | o :: l, k, a, hs, hd, hf, hv => by
    unfold putsFrom
    apply puts_eq vs a' l (k + 1) _ (by rw [put_size]; exact hs) (by rw [put_defers]; exact hd)
    · intro t ht
      by_cases e : o.dst = some t
      · obtain ⟨h1, h2⟩ := hv 0 o t rfl e
        rw [e, put_get_eq _ _ _ h1, show k = k + 0 from rfl, h2, eval_get' (by rw [hs]; exact h1)]
      · rw [put_get_ne _ _ _ _ e]
        refine hf t (fun o' ho' => ?_)
        rcases List.mem_cons.1 ho' with rfl | h
        · exact e
        · exact ht o' h
    · intro i o' d ho' hd'
      obtain ⟨h1, h2⟩ := hv (i + 1) o' d (by simpa using ho') hd'
      exact ⟨by rw [put_size]; exact h1, by rw [← h2]; congr 1; omega⟩

/-- what holds on the way. -/
structure RelI (ops : Array Oper) (R : Nat → Value → World → Prop) (a0 : Act) (w0 : World) (listed : Array Bool) (a : Act) (w : World) : Prop where
  size : a.tmps.size = a0.tmps.size
  defers : a.defers = a0.defers
  rest : ∀ (t : Nat), (∀ (i : Nat) (o : Oper), ops[i]? = some o → o.dst ≠ some t) → a.tmps[t]? = a0.tmps[t]?
  world : Below w0.heap.size w0 w
  facts : ∀ (i : Nat) (o : Oper) (d : Tmp), ops[i]? = some o → o.dst = some d → listed.getD i false = true → R i (a.eval (.tmp d)) w
theorem RelI.put {ops : Array Oper} {R : Nat → Value → World → Prop} {a0 : Act} {w0 : World} {listed : Array Bool} {a : Act} {w : World} (h : RelI ops R a0 w0 listed a w) (hB : relB ops a0.tmps.size = true)
    (hst : ∀ i v W W', R i v W → Below W.heap.size W W' → R i v W') {i : Nat} {o : Oper} (ho : ops[i]? = some o) {v : Value} {w' : World} (hb : Below w.heap.size w w') (hR : R i v w') :
    RelI ops R a0 w0 (listed.setIfInBounds i true) (a.put o.dst v) w' := by
  refine ⟨by rw [put_size]; exact h.size, by rw [put_defers]; exact h.defers, fun t ht => ?_, grew_trans h.world hb, fun j oj d hj hd hl => ?_⟩
  · rw [put_get_ne _ _ _ _ (ht i o ho)]; exact h.rest t ht
  · by_cases e : j = i
    · subst e
      rw [ho] at hj
      obtain rfl := Option.some.inj hj
      have := ((relB_spec hB ho).2 d hd).1
      rw [hd, eval_get (put_get_eq _ _ _ (by rw [h.size]; exact this))]
      exact hR
    · have hne : o.dst ≠ some d := fun ed => e (((relB_spec hB ho).2 d ed).2 j oj hj hd)
      have hl' : listed.getD j false = true := by rw [getD_set_ne false (Ne.symm e)] at hl; exact hl
      rw [Act.eval_put (fun d' hd' => by intro e2; injection e2 with e2; exact hne (by rw [hd', e2]))]
      exact hst _ _ _ _ (h.facts j oj d hj hd hl') hb
theorem relStep_wpOp {P : Program} {ops : Array Oper} {Q : Exit → Act → World → Prop} {i : Nat} {o : Oper} (ho : ops[i]? = some o) {a : Act} {w : World} {R : Value → World → Prop} (h : RelStep P ops o a w R) {K : Act → World → Prop}
    (hK : ∀ v w', Below w.heap.size w w' → R v w' → K (a.put o.dst v) w') : wpOp P ops Q i K a w := by
  unfold wpOp
  simp only [ho]
  unfold RelStep at h
  by_cases hw : Region.wanted o (yielded ops a.tmps) = true
  · rw [if_pos hw] at h
    simp only [hw, if_true]
    left
    unfold Oper.wp
    generalize (execOp a.eval o).run P w = r at *
    cases r with
    | ok n w' =>
      cases n <;> simp only [relUpon] at h <;> simp only [Oper.upon]
      case value u => exact hK _ _ h.1 h.2
      case skip => exact hK _ _ h.1 h.2
      case enter f args => exact h.mono fun e w'' ⟨v, he, hb, hr⟩ => by subst he; exact hK _ _ hb hr
    | halt x w' => simp only [relUpon] at h
  · rw [if_neg hw] at h
    simp only [hw]
    exact hK _ _ (Below.refl _ _) h
theorem relStep_free {P : Program} {ops : Array Oper} {o : Oper} {a : Act} {w : World} {R : Value → World → Prop} (hg : o.guard = none) (h : relUpon P w R ((execOp a.eval o).run P w)) : RelStep P ops o a w R := by
  unfold RelStep
  rw [if_pos (by unfold Region.wanted; rw [hg])]
  exact h
theorem dst_not {l : List Oper} {t : Nat} (h : (l.all fun o => o.dst != some t) = true) (i : Nat) (o : Oper) (ho : l[i]? = some o) : o.dst ≠ some t := by
  have := List.all_eq_true.1 h o (List.mem_of_getElem? ho)
  simpa using this
theorem ready_of_first {ops : Array Oper} {n : Nat} (hB : relB ops n = true) {listed : Array Bool} (hr : Region.ready .any ops listed = []) (hsz : listed.size = ops.size) : ∀ i, i < ops.size → listed.getD i false = true := by
  intro i
  induction i using Nat.strongRecOn with
  | ind i ih =>
    intro hi
    rcases Bool.eq_false_or_eq_true (listed.getD i false) with h | h
    · exact h
    · exfalso
      have hm : i ∈ Region.ready .any ops listed := by
        rw [mem_ready]
        refine ⟨?_, ops[i], Array.getElem?_eq_getElem hi, fun e he _ => ?_⟩
        · simp [hsz, hi] at h ⊢; exact h
        · have h1 := (relB_spec hB (Array.getElem?_eq_getElem hi)).1 e he
          exact ih e.on h1 (by omega)
      rw [hr] at hm
      cases hm
theorem wpAny_rel {P : Program} {ops : Array Oper} {Q : Exit → Act → World → Prop} {R : Nat → Value → World → Prop} {a0 : Act} {w0 : World} (hB : relB ops a0.tmps.size = true)
    (hst : ∀ i v W W', R i v W → Below W.heap.size W W' → R i v W')
    (hstep : ∀ (i : Nat) (o : Oper), ops[i]? = some o → ∀ a W, Below w0.heap.size w0 W → (∀ (t : Nat), (∀ (i : Nat) (o : Oper), ops[i]? = some o → o.dst ≠ some t) → a.tmps[t]? = a0.tmps[t]?) →
      (∀ e ∈ o.after, Region.binds .any e = true → ∀ (o' : Oper) (d : Tmp), ops[e.on]? = some o' → o'.dst = some d → ∃ v, a.tmps[d]? = some v ∧ R e.on v W) → RelStep P ops o a W (R i))
    (hend : ∀ vs W, Below w0.heap.size w0 W → (∀ (i : Nat) (o : Oper) (d : Tmp), ops[i]? = some o → o.dst = some d → R i (vs i) W) → Q .normal (putsFrom vs ops.toList 0 a0) W) :
    ∀ (fuel : Nat) (listed : Array Bool) (a : Act) (w : World), listed.size = ops.size → unl listed ops.size ≤ fuel → RelI ops R a0 w0 listed a w → wpAny P .any ops Q fuel listed a w := by
  have fin : ∀ (listed : Array Bool) (a : Act) (w : World), listed.size = ops.size → Region.ready .any ops listed = [] → RelI ops R a0 w0 listed a w → Q .normal a w := fun listed a w hsz hr hI => by
    have hall := ready_of_first hB hr hsz
    have hlt : ∀ {i o}, ops[i]? = some o → i < ops.size := fun {i o} h => by
      rcases Nat.lt_or_ge i ops.size with h' | h'
      · exact h'
      · rw [Array.getElem?_eq_none h'] at h; cases h
    have hvs := hend (fun i => match (ops[i]?).bind (·.dst) with | some d => a.eval (.tmp d) | none => undef) w hI.world (fun i o d ho hd => by
      simp only [ho, Option.bind_some, hd]
      exact hI.facts i o d ho hd (hall i (hlt ho)))
    rw [puts_eq _ a ops.toList 0 a0 hI.size hI.defers (fun t ht => hI.rest t (fun i o ho => ht o (by
        have := List.mem_of_getElem? (l := ops.toList) (i := i) (a := o) (by simpa using ho)
        exact this))) (fun i o d ho hd => by
        have ho' : ops[i]? = some o := by simpa using ho
        refine ⟨((relB_spec hB ho').2 d hd).1, ?_⟩
        simp only [Nat.zero_add, ho', Option.bind_some, hd])] at hvs
    exact hvs
  intro fuel
  induction fuel with
  | zero =>
    intro listed a w hsz hu hI
    have hr : Region.ready .any ops listed = [] := by
      apply List.eq_nil_iff_forall_not_mem.2
      intro i hi
      obtain ⟨h0, o, ho, _⟩ := mem_ready.1 hi
      have hlt : i < ops.size := by
        rcases Nat.lt_or_ge i ops.size with h' | h'
        · exact h'
        · rw [Array.getElem?_eq_none h'] at ho; cases ho
      have := unl_zero (listed := listed) (n := ops.size) (by omega) i hlt
      rw [this] at h0
      cases h0
    exact ⟨hr, fin _ _ _ hsz hr hI⟩
  | succ fuel ih =>
    intro listed a w hsz hu hI
    refine ⟨fun hr => fin _ _ _ hsz hr hI, fun i hi => ?_⟩
    obtain ⟨h0, o, ho, hall⟩ := mem_ready.1 hi
    have hlt : i < ops.size := by
      rcases Nat.lt_or_ge i ops.size with h' | h'
      · exact h'
      · rw [Array.getElem?_eq_none h'] at ho; cases ho
    refine relStep_wpOp ho (hstep i o ho a w hI.world hI.rest (fun e he hb o' d ho' hd' => ?_)) (fun v w' hb hR => ?_)
    · have := ((relB_spec hB ho').2 d hd').1
      exact ⟨_, eval_get' (by rw [hI.size]; exact this), hI.facts e.on o' d ho' hd' (hall e he hb)⟩
    · refine ih _ _ _ (by simpa using hsz) ?_ (hI.put hB hst ho hb hR)
      have := unl_set h0 hlt
      omega
/-- THE LAW. -/
theorem wp_region_rel {P : Program} {id : Nat} {l : List Oper} {Q : Exit → Act → World → Prop} {a : Act} {w : World} (R : Nat → Value → World → Prop) (hm : P.follows .mixedOrders = true) (hB : relB l.toArray a.tmps.size = true)
    (hst : ∀ i v W W', R i v W → Below W.heap.size W W' → R i v W')
    (hstep : ∀ (i : Nat) (o : Oper), l[i]? = some o → ∀ a' W, Below w.heap.size w W → (∀ (t : Nat), (∀ (i : Nat) (o : Oper), l[i]? = some o → o.dst ≠ some t) → a'.tmps[t]? = a.tmps[t]?) →
      (∀ e ∈ o.after, Region.binds .any e = true → ∀ (o' : Oper) (d : Tmp), l[e.on]? = some o' → o'.dst = some d → ∃ v, a'.tmps[d]? = some v ∧ R e.on v W) → RelStep P l.toArray o a' W (R i))
    (hend : ∀ vs W, Below w.heap.size w W → (∀ (i : Nat) (o : Oper) (d : Tmp), l[i]? = some o → o.dst = some d → R i (vs i) W) → Q .normal (putsFrom vs l 0 a) W) :
    (Code.region id l.toArray true).wp P Q a w := by
  refine wp_region_any hm ?_
  have hst' := hst
  refine wpAny_rel (R := R) (a0 := a) (w0 := w) hB hst (by simpa using hstep) (by simpa using hend) _ _ _ _ (by simp) (by rw [unl_all _ _ (Nat.le_refl _)]; exact Nat.le_refl _) ⟨rfl, rfl, fun _ _ => rfl, (Below.refl _ w).drew, fun i o d _ _ hl => ?_⟩
  exfalso
  have : (Array.replicate l.toArray.size false).getD i false = false := by
    rw [Array.getD_eq_getD_getElem?]
    by_cases h : i < l.toArray.size
    · rw [Array.getElem?_replicate, if_pos h]; rfl
    · rw [Array.getElem?_replicate, if_neg h]; rfl
  rw [this] at hl
  cases hl
end Go.Proofs.Ytcleaamjfjnkkaa
/- As Rel, where the region's last operation waits for all the others, and may turn what stood before: its own relation alone is kept. -/
namespace Go.Proofs.Ytcleaamjfjnkkaa
open Go.RowKit Go.Joins

def lastUpon (P : Program) (R : Value → World → Prop) : Result Next → Prop
  | .ok (.value u) w' => R u w'
  | .ok .skip w' => R undef w'
  | .ok (.enter f args) w' => Calls P f args w' (fun e w'' => ∃ v, e = .returned v ∧ R v w'')
  | _ => False
/-- each operation but the last is waited for by a later one. -/
def closeB (ops : Array Oper) : Bool :=
  (List.range (ops.size - 1)).all fun i => (List.range ops.size).any fun j => decide (i < j) && match ops[j]? with
    | none => false
    | some o => o.after.toList.any fun e => e.on == i && Region.binds .any e
theorem closeB_spec {ops : Array Oper} (h : closeB ops = true) {i : Nat} (hi : i + 1 < ops.size) : ∃ j o e, i < j ∧ ops[j]? = some o ∧ e ∈ o.after ∧ e.on = i ∧ Region.binds .any e = true := by
  unfold closeB at h
  rw [List.all_eq_true] at h
  have h1 := h i (List.mem_range.2 (by omega))
  rw [List.any_eq_true] at h1
  obtain ⟨j, _, h2⟩ := h1
  simp only [Bool.and_eq_true, decide_eq_true_eq] at h2
  obtain ⟨hij, h3⟩ := h2
  cases ho : ops[j]? with
  | none => rw [ho] at h3; cases h3
  | some o =>
    rw [ho] at h3
    simp only [List.any_eq_true, Bool.and_eq_true, beq_iff_eq] at h3
    obtain ⟨e, he, h4, h5⟩ := h3
    exact ⟨j, o, e, hij, ho, by simpa using he, h4, h5⟩
/-- what is listed waits for what is listed. -/
def Downs (ops : Array Oper) (listed : Array Bool) : Prop := ∀ (j : Nat) (o : Oper), ops[j]? = some o → listed.getD j false = true → ∀ e ∈ o.after, Region.binds .any e = true → listed.getD e.on false = true
theorem all_but_last {ops : Array Oper} (hc : closeB ops = true) {listed : Array Bool} (hd : Downs ops listed) {o : Oper} (ho : ops[ops.size - 1]? = some o) (hl : ∀ e ∈ o.after, Region.binds .any e = true → listed.getD e.on false = true) :
    ∀ k i, ops.size - 1 - i = k → i + 1 < ops.size → listed.getD i false = true := by
  intro k
  induction k using Nat.strongRecOn with
  | ind k ih =>
    intro i hk hi
    obtain ⟨j, oj, e, hij, hoj, he, hei, heb⟩ := closeB_spec hc hi
    have hj : j < ops.size := by
      rcases Nat.lt_or_ge j ops.size with h | h
      · exact h
      · rw [Array.getElem?_eq_none h] at hoj; cases hoj
    by_cases hjl : j = ops.size - 1
    · subst hjl
      rw [ho] at hoj
      obtain rfl := Option.some.inj hoj
      rw [← hei]; exact hl e he heb
    · have := ih (ops.size - 1 - j) (by omega) j rfl (by omega)
      rw [← hei]; exact hd j oj hoj this e he heb
theorem getD_set_true (listed : Array Bool) (i : Nat) (h : i < listed.size) : (listed.setIfInBounds i true).getD i false = true := by simp [h]
theorem Downs.set {ops : Array Oper} {listed : Array Bool} (h : Downs ops listed) {i : Nat} {o : Oper} (ho : ops[i]? = some o) (hl : ∀ e ∈ o.after, Region.binds .any e = true → listed.getD e.on false = true) : Downs ops (listed.setIfInBounds i true) := by
  have up : ∀ j, listed.getD j false = true → (listed.setIfInBounds i true).getD j false = true := fun j hj => by
    by_cases e : j = i
    · subst e
      have : j < listed.size := by
        rcases Nat.lt_or_ge j listed.size with h' | h'
        · exact h'
        · simp [Array.getElem?_eq_none h'] at hj
      exact getD_set_true _ _ this
    · rw [getD_set_ne false (Ne.symm e)]; exact hj
  intro j oj hoj hj e he hb
  by_cases ej : j = i
  · subst ej
    rw [ho] at hoj
    obtain rfl := Option.some.inj hoj
    exact up _ (hl e he hb)
  · rw [getD_set_ne false (Ne.symm ej)] at hj
    exact up _ (h j oj hoj hj e he hb)
theorem wpAny_rel_last {P : Program} {ops : Array Oper} {Q : Exit → Act → World → Prop} {R : Nat → Value → World → Prop} {Rk : Value → World → Prop} {a0 : Act} {w0 : World} (hB : relB ops a0.tmps.size = true) (hc : closeB ops = true)
    (hst : ∀ i v W W', R i v W → Below W.heap.size W W' → R i v W')
    (hstep : ∀ (i : Nat) (o : Oper), ops[i]? = some o → i + 1 < ops.size → ∀ a W, Below w0.heap.size w0 W → (∀ (t : Nat), (∀ (i : Nat) (o : Oper), ops[i]? = some o → o.dst ≠ some t) → a.tmps[t]? = a0.tmps[t]?) →
      (∀ e ∈ o.after, Region.binds .any e = true → ∀ (o' : Oper) (d : Tmp), ops[e.on]? = some o' → o'.dst = some d → ∃ v, a.tmps[d]? = some v ∧ R e.on v W) → RelStep P ops o a W (R i))
    (hlast : ∀ (o : Oper), ops[ops.size - 1]? = some o → ∀ (a : Act) (W : World), Below w0.heap.size w0 W → (∀ (t : Nat), (∀ (i : Nat) (o : Oper), ops[i]? = some o → o.dst ≠ some t) → a.tmps[t]? = a0.tmps[t]?) →
      (∀ e ∈ o.after, Region.binds .any e = true → ∀ (o' : Oper) (d : Tmp), ops[e.on]? = some o' → o'.dst = some d → ∃ v, a.tmps[d]? = some v ∧ R e.on v W) → o.guard = none ∧ o.dst ≠ none ∧ lastUpon P Rk ((execOp a.eval o).run P W))
    (hend : ∀ vs W, Rk (vs (ops.size - 1)) W → Q .normal (putsFrom vs ops.toList 0 a0) W) :
    ∀ (fuel : Nat) (listed : Array Bool) (a : Act) (w : World), listed.size = ops.size → unl listed ops.size ≤ fuel → listed.getD (ops.size - 1) false = false → 0 < ops.size → Downs ops listed → RelI ops R a0 w0 listed a w → wpAny P .any ops Q fuel listed a w := by
  have hlt : ∀ {i o}, ops[i]? = some o → i < ops.size := fun {i o} h => by
    rcases Nat.lt_or_ge i ops.size with h' | h'
    · exact h'
    · rw [Array.getElem?_eq_none h'] at h; cases h
  intro fuel
  induction fuel with
  | zero =>
    intro listed a w hsz hu hk h0 hd hI
    exfalso
    have := unl_zero (listed := listed) (n := ops.size) (by omega) (ops.size - 1) (by omega)
    have hlt' : ops.size - 1 < listed.size := by omega
    simp [hlt'] at this hk
    rw [this] at hk; cases hk
  | succ fuel ih =>
    intro listed a w hsz hu hk h0 hd hI
    refine ⟨fun hr => ?_, fun i hi => ?_⟩
    · exfalso
      have := ready_of_first hB hr hsz (ops.size - 1) (by omega)
      rw [this] at hk; cases hk
    · obtain ⟨hi0, o, ho, hall⟩ := mem_ready.1 hi
      have hil := hlt ho
      have hdeps : ∀ e ∈ o.after, Region.binds .any e = true → ∀ (o' : Oper) (d : Tmp), ops[e.on]? = some o' → o'.dst = some d → ∃ v, a.tmps[d]? = some v ∧ R e.on v w := fun e he hb o' d ho' hd' => by
        have := ((relB_spec hB ho').2 d hd').1
        exact ⟨_, eval_get' (by rw [hI.size]; exact this), hI.facts e.on o' d ho' hd' (hall e he hb)⟩
      by_cases hil' : i + 1 < ops.size
      · refine relStep_wpOp ho (hstep i o ho hil' a w hI.world hI.rest hdeps) (fun v w' hb hR => ?_)
        refine ih _ _ _ (by simpa using hsz) ?_ (by rw [getD_set_ne false (by omega)]; exact hk) h0 (hd.set ho hall) (hI.put hB hst ho hb hR)
        have := unl_set hi0 hil
        omega
      · have hie : i = ops.size - 1 := by omega
        subst hie
        obtain ⟨hg, hdn, hu2⟩ := hlast o ho a w hI.world hI.rest hdeps
        have hothers := fun i h => all_but_last hc hd ho hall _ i rfl h
        have hfull : ∀ i, i < ops.size → (listed.setIfInBounds (ops.size - 1) true).getD i false = true := fun i hi => by
          by_cases e : i = ops.size - 1
          · rw [e]; exact getD_set_true _ _ (by omega)
          · rw [getD_set_ne false (Ne.symm e)]; exact hothers i (by omega)
        have hnone : Region.ready .any ops (listed.setIfInBounds (ops.size - 1) true) = [] := by
          apply List.eq_nil_iff_forall_not_mem.2
          intro j hj
          obtain ⟨h0, oj, hoj, _⟩ := mem_ready.1 hj
          have hjl := hlt hoj
          have h1 := hfull j hjl
          have hlt' : j < (listed.setIfInBounds (ops.size - 1) true).size := by simp; omega
          rw [Array.getD_eq_getD_getElem?, Array.getElem?_eq_getElem hlt'] at h0 h1
          simp only [Option.getD_some] at h0 h1
          rw [h1] at h0; cases h0
        have hgo : ∀ v w', Rk v w' → wpAny P .any ops Q fuel (listed.setIfInBounds (ops.size - 1) true) (a.put o.dst v) w' := fun v w' hR => by
          have hq : Q .normal (a.put o.dst v) w' := by
            obtain ⟨d, hdd⟩ := Option.ne_none_iff_exists'.1 hdn
            have hdl := ((relB_spec hB ho).2 d hdd).1
            have hv : (a.put o.dst v).eval (.tmp d) = v := by rw [hdd]; exact eval_get (put_get_eq _ _ _ (by rw [hI.size]; exact hdl))
            have hvs := hend (fun i => match (ops[i]?).bind (·.dst) with | some d => (a.put o.dst v).eval (.tmp d) | none => undef) w' (by
              simp only [ho, Option.bind_some, hdd]
              rw [← hdd, hv]; exact hR)
            rw [puts_eq _ (a.put o.dst v) ops.toList 0 a0 (by rw [put_size]; exact hI.size) (by rw [put_defers]; exact hI.defers) (fun t ht => by
                have ht' : ∀ (i : Nat) (o : Oper), ops[i]? = some o → o.dst ≠ some t := fun i o ho => ht o (by
                  have := List.mem_of_getElem? (l := ops.toList) (i := i) (a := o) (by simpa using ho)
                  exact this)
                rw [put_get_ne _ _ _ _ (ht' _ o ho)]
                exact hI.rest t ht') (fun i o d ho hd => by
                have ho' : ops[i]? = some o := by simpa using ho
                refine ⟨((relB_spec hB ho').2 d hd).1, ?_⟩
                simp only [Nat.zero_add, ho', Option.bind_some, hd])] at hvs
            exact hvs
          cases fuel with
          | zero => exact ⟨hnone, hq⟩
          | succ f => exact ⟨fun _ => hq, fun j hj => by rw [hnone] at hj; cases hj⟩
        unfold wpOp
        have hw : Region.wanted o (yielded ops a.tmps) = true := by unfold Region.wanted; rw [hg]
        simp only [ho, hw, if_true]
        left
        unfold Oper.wp
        generalize (execOp a.eval o).run P w = r at *
        cases r with
        | ok n w' =>
          cases n <;> simp only [lastUpon] at hu2 <;> simp only [Oper.upon]
          case value u => exact hgo _ _ hu2
          case skip => exact hgo _ _ hu2
          case enter f args => exact hu2.mono fun e w'' ⟨v, he, hr⟩ => by subst he; exact hgo _ _ hr
        | halt x w' => simp only [lastUpon] at hu2
/-- THE LAW. -/
theorem wp_region_rel_last {P : Program} {id : Nat} {l : List Oper} {Q : Exit → Act → World → Prop} {a : Act} {w : World} (R : Nat → Value → World → Prop) (Rk : Value → World → Prop) (hm : P.follows .mixedOrders = true) (hB : relB l.toArray a.tmps.size = true) (hc : closeB l.toArray = true) (h0 : 0 < l.length)
    (hst : ∀ i v W W', R i v W → Below W.heap.size W W' → R i v W')
    (hstep : ∀ (i : Nat) (o : Oper), l[i]? = some o → i + 1 < l.length → ∀ a' W, Below w.heap.size w W → (∀ (t : Nat), (∀ (i : Nat) (o : Oper), l[i]? = some o → o.dst ≠ some t) → a'.tmps[t]? = a.tmps[t]?) →
      (∀ e ∈ o.after, Region.binds .any e = true → ∀ (o' : Oper) (d : Tmp), l[e.on]? = some o' → o'.dst = some d → ∃ v, a'.tmps[d]? = some v ∧ R e.on v W) → RelStep P l.toArray o a' W (R i))
    (hlast : ∀ (o : Oper), l[l.length - 1]? = some o → ∀ (a' : Act) (W : World), Below w.heap.size w W → (∀ (t : Nat), (∀ (i : Nat) (o : Oper), l[i]? = some o → o.dst ≠ some t) → a'.tmps[t]? = a.tmps[t]?) →
      (∀ e ∈ o.after, Region.binds .any e = true → ∀ (o' : Oper) (d : Tmp), l[e.on]? = some o' → o'.dst = some d → ∃ v, a'.tmps[d]? = some v ∧ R e.on v W) → o.guard = none ∧ o.dst ≠ none ∧ lastUpon P Rk ((execOp a'.eval o).run P W))
    (hend : ∀ vs W, Rk (vs (l.length - 1)) W → Q .normal (putsFrom vs l 0 a) W) :
    (Code.region id l.toArray true).wp P Q a w := by
  refine wp_region_any hm ?_
  refine wpAny_rel_last (R := R) (Rk := Rk) (a0 := a) (w0 := w) hB hc hst (by simpa using hstep) (by simpa using hlast) (by simpa using hend) _ _ _ _ (by simp) (by rw [unl_all _ _ (Nat.le_refl _)]; exact Nat.le_refl _) ?_ (by simpa using h0) ?_ ⟨rfl, rfl, fun _ _ => rfl, (Below.refl _ w).drew, fun i o d _ _ hl => ?_⟩
  all_goals (
    have hno : ∀ i, (Array.replicate l.toArray.size false).getD i false = false := fun i => by
      rw [Array.getD_eq_getD_getElem?]
      by_cases h : i < l.toArray.size
      · rw [Array.getElem?_replicate, if_pos h]; rfl
      · rw [Array.getElem?_replicate, if_neg h]; rfl)
  · exact hno _
  · intro j o _ hl
    rw [hno] at hl; cases hl
  · exfalso
    rw [hno] at hl; cases hl
end Go.Proofs.Ytcleaamjfjnkkaa
/- A region that draws its order, whose last operation waits for all the others and may turn what they read: what the loads read is held till it comes. -/
namespace Go.Proofs.Ytcleaamjfjnkkaa
open Go.RowKit Go.Joins
section
variable {P : Program} {ops : Array Oper} {Q : Exit → Act → World → Prop} {S : World → Prop}
/-- whatever order is picked; S holds behind each operation but the last. -/
def wpAnyL (P : Program) (ops : Array Oper) (Q : Exit → Act → World → Prop) (S : World → Prop) : Nat → Array Bool → Act → World → Prop
  | 0, listed, a, w => Region.ready .any ops listed = [] ∧ Q .normal a w
  | fuel + 1, listed, a, w =>
    (Region.ready .any ops listed = [] → Q .normal a w) ∧
    ∀ i ∈ Region.ready .any ops listed, wpOp P ops Q i (fun a' w' => (i + 1 < ops.size → S w') ∧ wpAnyL P ops Q S fuel (listed.setIfInBounds i true) a' w') a w
theorem wpAny_of_last : ∀ (fuel : Nat) (listed : Array Bool) (a : Act) (w : World), wpAnyL P ops Q S fuel listed a w → wpAny P .any ops Q fuel listed a w
  | 0, _, _, _, h => h
  | fuel + 1, _, _, _, h => ⟨h.1, fun i hi => wpOp_mono (fun a' w' h' => wpAny_of_last fuel _ a' w' h'.2) (h.2 i hi)⟩
theorem not_last (hc : closeB ops = true) {listed : Array Bool} (hd : Downs ops listed) {i j : Nat} (hi : i + 1 < ops.size) (hir : i ∈ Region.ready .any ops listed) (hjr : j ∈ Region.ready .any ops listed) : j + 1 < ops.size := by
  obtain ⟨_, oj, hoj, hall⟩ := mem_ready.1 hjr
  obtain ⟨h0, _⟩ := mem_ready.1 hir
  have hlt : j < ops.size := by
    rcases Nat.lt_or_ge j ops.size with h' | h'
    · exact h'
    · rw [Array.getElem?_eq_none h'] at hoj; cases hoj
  by_cases e : j + 1 < ops.size
  · exact e
  · exfalso
    have he : j = ops.size - 1 := by omega
    subst he
    have h1 := all_but_last hc hd hoj hall _ i rfl hi
    rcases Nat.lt_or_ge i listed.size with h' | h'
    · simp [h'] at h0 h1; rw [h0] at h1; cases h1
    · simp [Array.getElem?_eq_none h'] at h1
theorem wpAnyL_first {i : Nat} {oi : Oper} {v : Value} (hc : closeB ops = true) (hil : i + 1 < ops.size) (hi : ops[i]? = some oi) (hsel : ∀ (j : Nat) (o : Oper) cs b, ops[j]? = some o → o.op ≠ .select cs b)
    (hQ : ∀ c a w, Q (.panic c) (a.put oi.dst v) w → Q (.panic c) a w) :
    ∀ (fuel : Nat) (listed : Array Bool) (a : Act) (w : World), Downs ops listed →
      (∀ j oj, ops[j]? = some oj → j ≠ i → listed.getD j true = false → (∀ e ∈ oj.after, Region.binds .any e = true → e.on ≠ i) → oi.apart ops oj = true) →
      i ∈ Region.ready .any ops listed → YieldsIf P ops S oi v a → S w →
      wpAnyL P ops Q S fuel (listed.setIfInBounds i true) (a.put oi.dst v) w → wpAnyL P ops Q S (fuel + 1) listed a w := by
  intro fuel
  induction fuel with
  | zero =>
    intro listed a w _ _ hr hy hS H
    refine ⟨fun h => (by rw [h] at hr; cases hr), fun j hj => ?_⟩
    by_cases hji : j = i
    · subst hji; exact hy.wpOp hi hS ⟨fun _ => hS, H⟩
    · have := ready_mono hj hji
      rw [H.1] at this
      cases this
  | succ fuel ih =>
    intro listed a w hd hfree hr hy hS H
    refine ⟨fun h => (by rw [h] at hr; cases hr), fun j hj => ?_⟩
    by_cases hji : j = i
    · subst hji; exact hy.wpOp hi hS ⟨fun _ => hS, H⟩
    · have h1 := H.2 j (ready_mono hj hji)
      have hjl := not_last hc hd hil hr hj
      obtain ⟨hjun, oj, hoj, hall⟩ := mem_ready.1 hj
      have hnot : ∀ e ∈ oj.after, Region.binds .any e = true → e.on ≠ i := fun e he hb heq => by
        have h1 := hall e he hb
        have h0 := (mem_ready.1 hr).1
        rw [heq] at h1
        rcases Nat.lt_or_ge i listed.size with h' | h'
        · simp [h'] at h0 h1; rw [h0] at h1; cases h1
        · simp [Array.getElem?_eq_none h'] at h1
      have h2 := wpOp_putIf hoj (hfree j oj hoj hji hjun hnot) (fun cs b => hsel i oi cs b hi) (fun cs b => hsel j oj cs b hoj) hQ hy h1
      have hfree' : ∀ k ok, ops[k]? = some ok → k ≠ i → (listed.setIfInBounds j true).getD k true = false →
          (∀ e ∈ ok.after, Region.binds .any e = true → e.on ≠ i) → oi.apart ops ok = true := fun k ok hk hki hun hno => by
        refine hfree k ok hk hki ?_ hno
        by_cases hjk : j = k
        · subst hjk; exact hjun
        · rw [getD_set_ne true hjk] at hun; exact hun
      refine wpOp_mono (fun a' w' h3 => ⟨h3.2.1, ih (listed.setIfInBounds j true) a' w' (hd.set hoj hall) hfree' (ready_mono hr (Ne.symm hji)) h3.1 (h3.2.1 hjl) ?_⟩) h2
      rw [Array.setIfInBounds_comm _ _ hji]
      exact h3.2.2
/-- as a Bool. -/
def downsB (ops : Array Oper) (listed : Array Bool) : Bool :=
  (List.range ops.size).all fun j => !listed.getD j false || match ops[j]? with
    | none => true
    | some o => o.after.toList.all fun e => !Region.binds .any e || listed.getD e.on false
theorem downsB_spec {listed : Array Bool} (h : downsB ops listed = true) : Downs ops listed := by
  intro j o ho hl e he hb
  have hlt : j < ops.size := by
    rcases Nat.lt_or_ge j ops.size with h' | h'
    · exact h'
    · rw [Array.getElem?_eq_none h'] at ho; cases ho
  unfold downsB at h
  rw [List.all_eq_true] at h
  have h1 := h j (List.mem_range.2 hlt)
  rw [hl, ho] at h1
  simp only [Bool.not_true, Bool.false_or, List.all_eq_true] at h1
  have h2 := h1 e (by simpa using he)
  rw [hb] at h2
  simpa using h2
theorem wpAnyL_take (i : Nat) {oi : Oper} {v : Value} {fuel : Nat} {listed : Array Bool} {a : Act} {w : World} (hi : ops[i]? = some oi)
    (hb : (decide (i + 1 < ops.size) && closeB ops && downsB ops listed && Region.noSelect ops && Region.free .any ops listed i && (Region.ready .any ops listed).contains i) = true)
    (hQ : ∀ c a w, Q (.panic c) (a.put oi.dst v) w → Q (.panic c) a w) (hy : YieldsIf P ops S oi v a) (hS : S w)
    (h : wpAnyL P ops Q S fuel (listed.setIfInBounds i true) (a.put oi.dst v) w) : wpAnyL P ops Q S (fuel + 1) listed a w := by
  simp only [Bool.and_eq_true] at hb
  obtain ⟨⟨⟨⟨⟨h0, h1⟩, h2⟩, h3⟩, h4⟩, h5⟩ := hb
  exact wpAnyL_first h1 (by simpa using h0) hi (Region.noSelect_spec h3) hQ fuel listed a w (downsB_spec h2) (Region.free_spec hi h4) (by simpa using h5) hy hS h
theorem wpAnyL_step (i : Nat) {o : Oper} {fuel : Nat} {listed : Array Bool} {a : Act} {w : World} (hr : Region.ready .any ops listed = [i]) (ho : ops[i]? = some o)
    (h : ∀ K' : Act → World → Prop, Shut (∀ a w, S w → (S w → wpAnyL P ops Q S fuel (listed.setIfInBounds i true) a w) → K' a w) → if Region.wanted o (yielded ops a.tmps) = true then Oper.wp P o a w K' Q else K' (a.put o.dst undef) w) : wpAnyL P ops Q S (fuel + 1) listed a w := by
  refine ⟨fun h0 => (by rw [hr] at h0; cases h0), ?_⟩
  rw [hr]
  intro j hj
  obtain rfl := List.mem_singleton.1 hj
  exact wpOp_step ho (fun K' hK => h K' (fun a w hS hW => hK a w ⟨fun _ => hS, hW hS⟩))
theorem wpAnyL_end (i : Nat) {o : Oper} {fuel : Nat} {listed : Array Bool} {a : Act} {w : World} (hr : Region.ready .any ops listed = [i]) (ho : ops[i]? = some o) (hl : ops.size = i + 1) (he : Region.ready .any ops (listed.setIfInBounds i true) = [])
    (h : ∀ K' : Act → World → Prop, Shut (∀ a w, Q .normal a w → K' a w) → if Region.wanted o (yielded ops a.tmps) = true then Oper.wp P o a w K' Q else K' (a.put o.dst undef) w) : wpAnyL P ops Q S (fuel + 1) listed a w := by
  refine ⟨fun h0 => (by rw [hr] at h0; cases h0), ?_⟩
  rw [hr]
  intro j hj
  obtain rfl := List.mem_singleton.1 hj
  refine wpOp_step ho (fun K' hK => h K' (fun a w hq => hK a w ⟨fun hlt => (by omega), ?_⟩))
  cases fuel with
  | zero => exact ⟨he, hq⟩
  | succ f => exact ⟨fun _ => hq, fun k hk => (by rw [he] at hk; cases hk)⟩
theorem wp_region_last {id : Nat} {a : Act} {w : World} (S : World → Prop) (hm : P.follows .mixedOrders = true) (hS : S w.drew)
    (h : S w.drew → wpAnyL P ops Q S ops.size (Array.replicate ops.size false) a w.drew) : (Code.region id ops true).wp P Q a w :=
  wp_region_any hm (wpAny_of_last _ _ _ _ (h hS))
end
end Go.Proofs.Ytcleaamjfjnkkaa
/- A region that draws its order, whose last operations wait for all the others and may turn what those read: what the loads read is held till they come. -/
namespace Go.Proofs.Ytcleaamjfjnkkaa
open Go.RowKit Go.Joins
section
variable {P : Program} {ops : Array Oper} {Q : Exit → Act → World → Prop} {S : World → Prop} {lim : Nat → Bool}
/-- j waits for i, through others or not. -/
def reachB (ops : Array Oper) (i : Nat) : Nat → Nat → Bool
  | 0, _ => false
  | n + 1, j => match ops[j]? with
    | none => false
    | some o => (o.after.toList.any fun e => Region.binds .any e && e.on == i) || o.after.toList.any fun e => Region.binds .any e && reachB ops i n e.on
theorem reach_listed {listed : Array Bool} (hd : Downs ops listed) {i : Nat} : ∀ (n j : Nat) (o : Oper), reachB ops i n j = true → ops[j]? = some o → (∀ e ∈ o.after, Region.binds .any e = true → listed.getD e.on false = true) → listed.getD i false = true := by
  intro n
  induction n with
  | zero => intro j o h; simp [reachB] at h
  | succ n ih =>
    intro j o h ho hall
    unfold reachB at h
    rw [ho] at h
    simp only [List.any_eq_true, Bool.and_eq_true, Bool.or_eq_true, beq_iff_eq] at h
    rcases h with ⟨e, he, hb, h2⟩ | ⟨e, he, hb, h2⟩
    · have hl := hall e (by simpa using he) hb
      rw [← h2]; exact hl
    · have hl := hall e (by simpa using he) hb
      cases ho2 : ops[e.on]? with
      | none => 
        cases n with
        | zero => simp [reachB] at h2
        | succ n => unfold reachB at h2; rw [ho2] at h2; cases h2
      | some o2 => exact ih e.on o2 h2 ho2 (hd e.on o2 ho2 hl)
/-- each operation that is neither early nor free waits for each early one. -/
def tailB (ops : Array Oper) (lim fr : Nat → Bool) : Bool :=
  (List.range ops.size).all fun j => lim j || fr j || (List.range ops.size).all fun i => !lim i || reachB ops i ops.size j
theorem tailB_spec {fr : Nat → Bool} (h : tailB ops lim fr = true) {i j : Nat} (hi : lim i = true) (hil : i < ops.size) (hj : lim j = false) (hjl : fr j = false) (hjs : j < ops.size) : reachB ops i ops.size j = true := by
  unfold tailB at h
  rw [List.all_eq_true] at h
  have h1 := h j (List.mem_range.2 hjs)
  rw [hj, hjl] at h1
  simp only [Bool.false_or, List.all_eq_true] at h1
  have h2 := h1 i (List.mem_range.2 hil)
  rw [hi] at h2
  simpa using h2
/-- all free ones were listed. -/
def freeB (ops : Array Oper) (fr : Nat → Bool) (listed : Array Bool) : Bool := (List.range ops.size).all fun j => !fr j || listed.getD j false
theorem freeB_spec {fr : Nat → Bool} {listed : Array Bool} (h : freeB ops fr listed = true) {j : Nat} (hj : j < ops.size) (hf : fr j = true) : listed.getD j false = true := by
  unfold freeB at h
  rw [List.all_eq_true] at h
  have h1 := h j (List.mem_range.2 hj)
  rw [hf] at h1
  simpa using h1
theorem freeB_set {fr : Nat → Bool} {listed : Array Bool} (h : freeB ops fr listed = true) (k : Nat) : freeB ops fr (listed.setIfInBounds k true) = true := by
  unfold freeB at h ⊢
  rw [List.all_eq_true] at h ⊢
  intro j hj
  have h1 := h j hj
  by_cases e : k = j
  · subst e
    rcases Nat.lt_or_ge k listed.size with h' | h'
    · simp [h']
    · rw [Array.setIfInBounds_eq_of_size_le h']; exact h1
  · rw [getD_set_ne false e]; exact h1
/-- whatever order is picked; S holds behind each early operation. -/
def wpAnyM (P : Program) (ops : Array Oper) (Q : Exit → Act → World → Prop) (S : World → Prop) (lim : Nat → Bool) : Nat → Array Bool → Act → World → Prop
  | 0, listed, a, w => Region.ready .any ops listed = [] ∧ Q .normal a w
  | fuel + 1, listed, a, w =>
    (Region.ready .any ops listed = [] → Q .normal a w) ∧
    ∀ i ∈ Region.ready .any ops listed, wpOp P ops Q i (fun a' w' => (lim i = true → S w') ∧ wpAnyM P ops Q S lim fuel (listed.setIfInBounds i true) a' w') a w
theorem wpAny_of_lim : ∀ (fuel : Nat) (listed : Array Bool) (a : Act) (w : World), wpAnyM P ops Q S lim fuel listed a w → wpAny P .any ops Q fuel listed a w
  | 0, _, _, _, h => h
  | fuel + 1, _, _, _, h => ⟨h.1, fun i hi => wpOp_mono (fun a' w' h' => wpAny_of_lim fuel _ a' w' h'.2) (h.2 i hi)⟩
theorem ready_lt {listed : Array Bool} {j : Nat} (h : j ∈ Region.ready .any ops listed) : j < ops.size := by
  obtain ⟨_, oj, hoj, _⟩ := mem_ready.1 h
  rcases Nat.lt_or_ge j ops.size with h' | h'
  · exact h'
  · rw [Array.getElem?_eq_none h'] at hoj; cases hoj
theorem not_tail {fr : Nat → Bool} {listed : Array Bool} (hc : tailB ops lim fr = true) (hfr : freeB ops fr listed = true) (hd : Downs ops listed) {i j : Nat} (hi : lim i = true) (hir : i ∈ Region.ready .any ops listed) (hjr : j ∈ Region.ready .any ops listed) : lim j = true := by
  obtain ⟨hju, oj, hoj, hall⟩ := mem_ready.1 hjr
  obtain ⟨h0, _⟩ := mem_ready.1 hir
  cases hj : lim j with
  | true => rfl
  | false =>
    exfalso
    have hjf : fr j = false := by
      cases hf : fr j with
      | false => rfl
      | true =>
        have h1 := freeB_spec hfr (ready_lt hjr) hf
        rcases Nat.lt_or_ge j listed.size with h' | h'
        · simp [h'] at hju h1; rw [hju] at h1; cases h1
        · simp [Array.getElem?_eq_none h'] at h1
    have h1 := reach_listed hd _ j oj (tailB_spec hc hi (ready_lt hir) hj hjf (ready_lt hjr)) hoj hall
    rcases Nat.lt_or_ge i listed.size with h' | h'
    · simp [h'] at h0 h1; rw [h0] at h1; cases h1
    · simp [Array.getElem?_eq_none h'] at h1
/-- an operation whose result leans on nothing comes first, too. -/
theorem wpAnyM_any {i : Nat} {oi : Oper} {v : Value} (hni : lim i = false) (hi : ops[i]? = some oi) (hsel : ∀ (j : Nat) (o : Oper) cs b, ops[j]? = some o → o.op ≠ .select cs b)
    (hQ : ∀ c a w, Q (.panic c) (a.put oi.dst v) w → Q (.panic c) a w) :
    ∀ (fuel : Nat) (listed : Array Bool) (a : Act) (w : World),
      (∀ j oj, ops[j]? = some oj → j ≠ i → listed.getD j true = false → (∀ e ∈ oj.after, Region.binds .any e = true → e.on ≠ i) → oi.apart ops oj = true) →
      i ∈ Region.ready .any ops listed → YieldsIf P ops (fun _ => True) oi v a →
      wpAnyM P ops Q S lim fuel (listed.setIfInBounds i true) (a.put oi.dst v) w → wpAnyM P ops Q S lim (fuel + 1) listed a w := by
  intro fuel
  induction fuel with
  | zero =>
    intro listed a w _ hr hy H
    refine ⟨fun h => (by rw [h] at hr; cases hr), fun j hj => ?_⟩
    by_cases hji : j = i
    · subst hji; exact hy.wpOp hi trivial ⟨fun h => (by rw [hni] at h; cases h), H⟩
    · have := ready_mono hj hji
      rw [H.1] at this
      cases this
  | succ fuel ih =>
    intro listed a w hfree hr hy H
    refine ⟨fun h => (by rw [h] at hr; cases hr), fun j hj => ?_⟩
    by_cases hji : j = i
    · subst hji; exact hy.wpOp hi trivial ⟨fun h => (by rw [hni] at h; cases h), H⟩
    · have h1 := H.2 j (ready_mono hj hji)
      obtain ⟨hjun, oj, hoj, hall⟩ := mem_ready.1 hj
      have hnot : ∀ e ∈ oj.after, Region.binds .any e = true → e.on ≠ i := fun e he hb heq => by
        have h1 := hall e he hb
        have h0 := (mem_ready.1 hr).1
        rw [heq] at h1
        rcases Nat.lt_or_ge i listed.size with h' | h'
        · simp [h'] at h0 h1; rw [h0] at h1; cases h1
        · simp [Array.getElem?_eq_none h'] at h1
      have h2 := wpOp_putIf hoj (hfree j oj hoj hji hjun hnot) (fun cs b => hsel i oi cs b hi) (fun cs b => hsel j oj cs b hoj) hQ hy h1
      have hfree' : ∀ k ok, ops[k]? = some ok → k ≠ i → (listed.setIfInBounds j true).getD k true = false →
          (∀ e ∈ ok.after, Region.binds .any e = true → e.on ≠ i) → oi.apart ops ok = true := fun k ok hk hki hun hno => by
        refine hfree k ok hk hki ?_ hno
        by_cases hjk : j = k
        · subst hjk; exact hjun
        · rw [getD_set_ne true hjk] at hun; exact hun
      refine wpOp_mono (fun a' w' h3 => ⟨h3.2.1, ih (listed.setIfInBounds j true) a' w' hfree' (ready_mono hr (Ne.symm hji)) h3.1 ?_⟩) h2
      rw [Array.setIfInBounds_comm _ _ hji]
      exact h3.2.2
theorem wpAnyM_first {fr : Nat → Bool} {i : Nat} {oi : Oper} {v : Value} (hil : lim i = true) (hi : ops[i]? = some oi) (hsel : ∀ (j : Nat) (o : Oper) cs b, ops[j]? = some o → o.op ≠ .select cs b)
    (hQ : ∀ c a w, Q (.panic c) (a.put oi.dst v) w → Q (.panic c) a w) :
    ∀ (fuel : Nat) (listed : Array Bool) (a : Act) (w : World), tailB ops lim fr = true → freeB ops fr listed = true → Downs ops listed →
      (∀ j oj, ops[j]? = some oj → j ≠ i → listed.getD j true = false → (∀ e ∈ oj.after, Region.binds .any e = true → e.on ≠ i) → oi.apart ops oj = true) →
      i ∈ Region.ready .any ops listed → YieldsIf P ops S oi v a → S w →
      wpAnyM P ops Q S lim fuel (listed.setIfInBounds i true) (a.put oi.dst v) w → wpAnyM P ops Q S lim (fuel + 1) listed a w := by
  intro fuel
  induction fuel with
  | zero =>
    intro listed a w _ _ _ _ hr hy hS H
    refine ⟨fun h => (by rw [h] at hr; cases hr), fun j hj => ?_⟩
    by_cases hji : j = i
    · subst hji; exact hy.wpOp hi hS ⟨fun _ => hS, H⟩
    · have := ready_mono hj hji
      rw [H.1] at this
      cases this
  | succ fuel ih =>
    intro listed a w hc hfr hd hfree hr hy hS H
    refine ⟨fun h => (by rw [h] at hr; cases hr), fun j hj => ?_⟩
    by_cases hji : j = i
    · subst hji; exact hy.wpOp hi hS ⟨fun _ => hS, H⟩
    · have h1 := H.2 j (ready_mono hj hji)
      have hjl := not_tail hc hfr hd hil hr hj
      obtain ⟨hjun, oj, hoj, hall⟩ := mem_ready.1 hj
      have hnot : ∀ e ∈ oj.after, Region.binds .any e = true → e.on ≠ i := fun e he hb heq => by
        have h1 := hall e he hb
        have h0 := (mem_ready.1 hr).1
        rw [heq] at h1
        rcases Nat.lt_or_ge i listed.size with h' | h'
        · simp [h'] at h0 h1; rw [h0] at h1; cases h1
        · simp [Array.getElem?_eq_none h'] at h1
      have h2 := wpOp_putIf hoj (hfree j oj hoj hji hjun hnot) (fun cs b => hsel i oi cs b hi) (fun cs b => hsel j oj cs b hoj) hQ hy h1
      have hfree' : ∀ k ok, ops[k]? = some ok → k ≠ i → (listed.setIfInBounds j true).getD k true = false →
          (∀ e ∈ ok.after, Region.binds .any e = true → e.on ≠ i) → oi.apart ops ok = true := fun k ok hk hki hun hno => by
        refine hfree k ok hk hki ?_ hno
        by_cases hjk : j = k
        · subst hjk; exact hjun
        · rw [getD_set_ne true hjk] at hun; exact hun
      refine wpOp_mono (fun a' w' h3 => ⟨h3.2.1, ih (listed.setIfInBounds j true) a' w' hc (freeB_set hfr j) (hd.set hoj hall) hfree' (ready_mono hr (Ne.symm hji)) h3.1 (h3.2.1 hjl) ?_⟩) h2
      rw [Array.setIfInBounds_comm _ _ hji]
      exact h3.2.2
theorem wpAnyM_take {fr : Nat → Bool} (hc : tailB ops lim fr = true) (i : Nat) {oi : Oper} {v : Value} {fuel : Nat} {listed : Array Bool} {a : Act} {w : World} (hi : ops[i]? = some oi)
    (hb : (lim i && freeB ops fr listed && downsB ops listed && Region.noSelect ops && Region.free .any ops listed i && (Region.ready .any ops listed).contains i) = true)
    (hQ : ∀ c a w, Q (.panic c) (a.put oi.dst v) w → Q (.panic c) a w) (hy : YieldsIf P ops S oi v a) (hS : S w)
    (h : wpAnyM P ops Q S lim fuel (listed.setIfInBounds i true) (a.put oi.dst v) w) : wpAnyM P ops Q S lim (fuel + 1) listed a w := by
  simp only [Bool.and_eq_true] at hb
  obtain ⟨⟨⟨⟨⟨h0, h1⟩, h2⟩, h3⟩, h4⟩, h5⟩ := hb
  exact wpAnyM_first h0 hi (Region.noSelect_spec h3) hQ fuel listed a w hc h1 (downsB_spec h2) (Region.free_spec hi h4) (by simpa using h5) hy hS h
theorem wpAnyM_takeD {fr : Nat → Bool} (hc : tailB ops lim fr = true) (i d : Nat) {oi : Oper} {v : Value} {fuel : Nat} {listed : Array Bool} {a : Act} {w : World} (hi : ops[i]? = some oi) (hd : oi.dst = some d)
    (hb : (lim i && freeB ops fr listed && downsB ops listed && Region.noSelect ops && Region.free .any ops listed i && (Region.ready .any ops listed).contains i) = true)
    (hQ : ∀ c a w, Q (.panic c) (a.put oi.dst v) w → Q (.panic c) a w) (hy : YieldsIf P ops S oi v a) (hS : S w)
    (h : wpAnyM P ops Q S lim fuel (listed.setIfInBounds i true) { a with tmps := a.tmps.setIfInBounds d v } w) : wpAnyM P ops Q S lim (fuel + 1) listed a w := by
  refine wpAnyM_take hc i hi hb hQ hy hS ?_
  rw [hd]
  exact h
theorem wpAnyM_freeD (i d : Nat) {oi : Oper} {v : Value} {fuel : Nat} {listed : Array Bool} {a : Act} {w : World} (hi : ops[i]? = some oi) (hd : oi.dst = some d)
    (hb : (!lim i && Region.noSelect ops && Region.free .any ops listed i && (Region.ready .any ops listed).contains i) = true)
    (hQ : ∀ c a w, Q (.panic c) (a.put oi.dst v) w → Q (.panic c) a w) (hy : YieldsIf P ops (fun _ => True) oi v a)
    (h : wpAnyM P ops Q S lim fuel (listed.setIfInBounds i true) { a with tmps := a.tmps.setIfInBounds d v } w) : wpAnyM P ops Q S lim (fuel + 1) listed a w := by
  simp only [Bool.and_eq_true] at hb
  obtain ⟨⟨⟨h0, h3⟩, h4⟩, h5⟩ := hb
  refine wpAnyM_any (by simpa using h0) hi (Region.noSelect_spec h3) hQ fuel listed a w (Region.free_spec hi h4) (by simpa using h5) hy ?_
  rw [hd]
  exact h
/-- the only one that may come. -/
theorem wpAnyM_step (i : Nat) {o : Oper} {fuel : Nat} {listed : Array Bool} {a : Act} {w : World} (hr : Region.ready .any ops listed = [i]) (ho : ops[i]? = some o)
    (h : ∀ K' : Act → World → Prop, Shut (∀ a w, S w → (S w → wpAnyM P ops Q S lim fuel (listed.setIfInBounds i true) a w) → K' a w) → if Region.wanted o (yielded ops a.tmps) = true then Oper.wp P o a w K' Q else K' (a.put o.dst undef) w) : wpAnyM P ops Q S lim (fuel + 1) listed a w := by
  refine ⟨fun h0 => (by rw [hr] at h0; cases h0), ?_⟩
  rw [hr]
  intro j hj
  obtain rfl := List.mem_singleton.1 hj
  exact wpOp_step ho (fun K' hK => h K' (fun a w hS hW => hK a w ⟨fun _ => hS, hW hS⟩))
/-- .. that is not early. -/
theorem wpAnyM_late (i : Nat) {o : Oper} {fuel : Nat} {listed : Array Bool} {a : Act} {w : World} (hr : Region.ready .any ops listed = [i]) (ho : ops[i]? = some o) (hl : lim i = false)
    (h : ∀ K' : Act → World → Prop, Shut (∀ a w, wpAnyM P ops Q S lim fuel (listed.setIfInBounds i true) a w → K' a w) → if Region.wanted o (yielded ops a.tmps) = true then Oper.wp P o a w K' Q else K' (a.put o.dst undef) w) : wpAnyM P ops Q S lim (fuel + 1) listed a w := by
  refine ⟨fun h0 => (by rw [hr] at h0; cases h0), ?_⟩
  rw [hr]
  intro j hj
  obtain rfl := List.mem_singleton.1 hj
  exact wpOp_step ho (fun K' hK => h K' (fun a w hW => hK a w ⟨fun hlt => (by rw [hl] at hlt; cases hlt), hW⟩))
theorem wpAnyM_two (i j : Nat) {oi oj : Oper} {fuel : Nat} {listed : Array Bool} {a : Act} {w : World} (hr : Region.ready .any ops listed = [i, j]) (hi : ops[i]? = some oi) (hj : ops[j]? = some oj)
    (h1 : ∀ K' : Act → World → Prop, Shut (∀ a w, S w → (S w → wpAnyM P ops Q S lim fuel (listed.setIfInBounds i true) a w) → K' a w) → if Region.wanted oi (yielded ops a.tmps) = true then Oper.wp P oi a w K' Q else K' (a.put oi.dst undef) w)
    (h2 : ∀ K' : Act → World → Prop, Shut (∀ a w, S w → (S w → wpAnyM P ops Q S lim fuel (listed.setIfInBounds j true) a w) → K' a w) → if Region.wanted oj (yielded ops a.tmps) = true then Oper.wp P oj a w K' Q else K' (a.put oj.dst undef) w) : wpAnyM P ops Q S lim (fuel + 1) listed a w := by
  refine ⟨fun h0 => (by rw [hr] at h0; cases h0), ?_⟩
  rw [hr]
  intro k hk
  rcases List.mem_cons.1 hk with rfl | hk
  · exact wpOp_step hi (fun K' hK => h1 K' (fun a w hS hW => hK a w ⟨fun _ => hS, hW hS⟩))
  · obtain rfl := List.mem_singleton.1 hk
    exact wpOp_step hj (fun K' hK => h2 K' (fun a w hS hW => hK a w ⟨fun _ => hS, hW hS⟩))
theorem wpAnyM_done {fuel : Nat} {listed : Array Bool} {a : Act} {w : World} (hr : Region.ready .any ops listed = []) (h : Q .normal a w) : wpAnyM P ops Q S lim fuel listed a w := by
  cases fuel with
  | zero => exact ⟨hr, h⟩
  | succ f => exact ⟨fun _ => h, fun k hk => (by rw [hr] at hk; cases hk)⟩
theorem wp_region_lim {id : Nat} {a : Act} {w : World} (S : World → Prop) (lim fr : Nat → Bool) (hm : P.follows .mixedOrders = true) (ht : tailB ops lim fr = true) (hS : S w.drew)
    (h : tailB ops lim fr = true → S w.drew → wpAnyM P ops Q S lim ops.size (Array.replicate ops.size false) a w.drew) : (Code.region id ops true).wp P Q a w :=
  wp_region_any hm (wpAny_of_lim _ _ _ _ (h ht hS))
/-- a struct that is read whole out of a block. -/
theorem exec_load_row {o : Oper} {a : Act} {w : World} (ty : TypeId) (x : Operand) (ho : o.op = .load ty x)
    (g : Nat) (hx : a.eval x = .pointer (some ⟨g, 0, none⟩)) (t : TypeId) (cs : Array Value) (fr : Nat × Nat) (d : TypeDesc) (hg : w.heap[g]? = some (.cells cs t fr))
    (hu : P.underlying ty = some d) (hd : (match d with | .struct _ | .array _ _ => true | _ => false) = true) (hi : (P.info? ty).map (·.size) = some cs.size) :
    (execOp a.eval o).run P w = .ok (.value (.agg cs)) w := by
  unfold execOp
  simp only [ho, hx, Instr.loadAt, Instr.sureAddr, Sem.run_bind, Sem.run_pure, Result.andThen_ok, run_loadVar_row w g t ty cs fr d hg hu hd hi]
/- The same in few letters. -/
theorem s1 {α : Type} {l : List α} {i : Nat} {v : α} : l.toArray.setIfInBounds i v = (l.set i v).toArray := List.setIfInBounds_toArray _ _ _
theorem s2 {α : Type} {x : α} {l : List α} {v : α} : (x :: l).set 0 v = v :: l := List.set_cons_zero
theorem s3 {α : Type} {x : α} {l : List α} {i : Nat} {v : α} : (x :: l).set (i + 1) v = x :: l.set i v := List.set_cons_succ
theorem tkD {fr : Nat → Bool} (hc : tailB ops lim fr = true) (i d : Nat) {oi : Oper} {v : Value} {fuel : Nat} {listed : Array Bool} {a : Act} {w : World}
    (hy : ∀ w, S w → (execOp a.eval oi).run P w = .ok (.value v) w)
    (h : wpAnyM P ops Q S lim fuel (listed.setIfInBounds i true) { a with tmps := a.tmps.setIfInBounds d v } w)
    (hi : ops[i]? = some oi := by rfl) (hd : oi.dst = some d := by rfl)
    (hb : (lim i && freeB ops fr listed && downsB ops listed && Region.noSelect ops && Region.free .any ops listed i && (Region.ready .any ops listed).contains i) = true := by kernel_rfl)
    (hw : Region.wanted oi (yielded ops a.tmps) = true := by kernel_rfl)
    (hQ : ∀ c a w, Q (.panic c) (a.put oi.dst v) w → Q (.panic c) a w := by exact fun _ _ _ h => h) (hS : S w := by assumption) : wpAnyM P ops Q S lim (fuel + 1) listed a w :=
  wpAnyM_takeD hc i d hi hd hb hQ (Or.inl ⟨hw, hy⟩) hS h
theorem tkN {fr : Nat → Bool} (hc : tailB ops lim fr = true) (i d : Nat) {oi : Oper} {fuel : Nat} {listed : Array Bool} {a : Act} {w : World}
    (h : wpAnyM P ops Q S lim fuel (listed.setIfInBounds i true) { a with tmps := a.tmps.setIfInBounds d undef } w)
    (hi : ops[i]? = some oi := by rfl) (hd : oi.dst = some d := by rfl)
    (hb : (lim i && freeB ops fr listed && downsB ops listed && Region.noSelect ops && Region.free .any ops listed i && (Region.ready .any ops listed).contains i) = true := by kernel_rfl)
    (hw : Region.wanted oi (yielded ops a.tmps) = false := by kernel_rfl)
    (hQ : ∀ c a w, Q (.panic c) (a.put oi.dst undef) w → Q (.panic c) a w := by exact fun _ _ _ h => h) (hS : S w := by assumption) : wpAnyM P ops Q S lim (fuel + 1) listed a w :=
  wpAnyM_takeD hc i d hi hd hb hQ (Or.inr ⟨hw, rfl⟩) hS h
theorem tkF (i d : Nat) {oi : Oper} {v : Value} {fuel : Nat} {listed : Array Bool} {a : Act} {w : World}
    (hy : ∀ w, True → (execOp a.eval oi).run P w = .ok (.value v) w)
    (h : wpAnyM P ops Q S lim fuel (listed.setIfInBounds i true) { a with tmps := a.tmps.setIfInBounds d v } w)
    (hi : ops[i]? = some oi := by rfl) (hd : oi.dst = some d := by rfl)
    (hb : (!lim i && Region.noSelect ops && Region.free .any ops listed i && (Region.ready .any ops listed).contains i) = true := by kernel_rfl)
    (hw : Region.wanted oi (yielded ops a.tmps) = true := by kernel_rfl)
    (hQ : ∀ c a w, Q (.panic c) (a.put oi.dst v) w → Q (.panic c) a w := by exact fun _ _ _ h => h) : wpAnyM P ops Q S lim (fuel + 1) listed a w :=
  wpAnyM_freeD i d hi hd hb hQ (Or.inl ⟨hw, hy⟩) h
theorem tkS (i : Nat) {o : Oper} {fuel : Nat} {listed : Array Bool} {a : Act} {w : World}
    (h : ∀ K' : Act → World → Prop, Shut (∀ a w, S w → (S w → wpAnyM P ops Q S lim fuel (listed.setIfInBounds i true) a w) → K' a w) → if Region.wanted o (yielded ops a.tmps) = true then Oper.wp P o a w K' Q else K' (a.put o.dst undef) w)
    (hr : Region.ready .any ops listed = [i] := by kernel_rfl) (ho : ops[i]? = some o := by rfl) : wpAnyM P ops Q S lim (fuel + 1) listed a w := wpAnyM_step i hr ho h
theorem tkL (i : Nat) {o : Oper} {fuel : Nat} {listed : Array Bool} {a : Act} {w : World}
    (h : ∀ K' : Act → World → Prop, Shut (∀ a w, wpAnyM P ops Q S lim fuel (listed.setIfInBounds i true) a w → K' a w) → if Region.wanted o (yielded ops a.tmps) = true then Oper.wp P o a w K' Q else K' (a.put o.dst undef) w)
    (hr : Region.ready .any ops listed = [i] := by kernel_rfl) (ho : ops[i]? = some o := by rfl) (hl : lim i = false := by kernel_rfl) : wpAnyM P ops Q S lim (fuel + 1) listed a w := wpAnyM_late i hr ho hl h
end
end Go.Proofs.Ytcleaamjfjnkkaa
/- Opening what came in, by the type's shape: of whatever program. 'Opens P t p': whatever value of type t reads as data, its cells are as p says. -/
namespace Go.Proofs.Ytcleaamjfjnkkaa
open Go.ChangeShapes Go.WideShapes Go.RowKit

def CellsP : Type := World → List Value → Prop

def Opens (P : Program) (t : TypeId) (p : CellsP) : Prop :=
  ∀ (H : Type) (enc : TypeId × Value → H) (w : World) (base : Nat) (spare : Nat → Bool) (held : Bool) (fuel : Nat) (cs : List Value) (x : DataW H × List MemPlace),
    DataW.trod enc P w base spare held fuel t cs = some x → (∀ q ∈ x.2, q.block < w.heap.size) → p w cs

/-- one integer of a kind. -/
def pInt (k : IntKind) : CellsP := fun _ cs => ∃ n, cs = [.int k n] ∧ (Lit.int k n).wf = true
def pBool : CellsP := fun _ cs => ∃ b, cs = [.bool b]
def pStr : CellsP := fun _ cs => ∃ s : ByteArray, cs = [.string s] ∧ s.size ≤ maxLen
/-- a slice, whose elements take so many cells and are as p says (all up to the length). -/
def pSlice (size : Nat) (p : CellsP) : CellsP := fun w cs =>
  ∃ a len cap, cs = [.slice a len cap] ∧ len ≤ cap ∧ cap ≤ maxLen ∧ (a = none → cap = 0) ∧
    ∀ i, i < len → ∃ b off, a = some ⟨b, off, none⟩ ∧ b < w.heap.size ∧ ∃ es : List Value, es.length = size ∧ (∀ j, j < size → w.cell? ⟨b, off + (i * size + j), none⟩ = es[j]?) ∧ p w es
/-- so many of one shape, one behind the other. -/
def pArray (n size : Nat) (p : CellsP) : CellsP := fun w cs => cs.length = n * size ∧ ∀ i, i < n → p w ((cs.drop (i * size)).take size)
/-- fields, each at its offset, of its size. -/
def pFields (total : Nat) (fs : List (Nat × Nat × CellsP)) : CellsP := fun w cs => cs.length = total ∧ ∀ f ∈ fs, f.2.2 w ((cs.drop f.1).take f.2.1)

theorem opens_int {P : Program} {t : TypeId} {k : IntKind} (ht : P.underlying t = some (.int k)) : Opens P t (pInt k) := by
  intro H enc w base spare held fuel cs x h _
  obtain ⟨n, hc, _, hw⟩ := DataW.trod_int ht h
  exact ⟨n, hc, hw⟩
theorem opens_bool {P : Program} {t : TypeId} (ht : P.underlying t = some .bool) : Opens P t pBool := by
  intro H enc w base spare held fuel cs x h _
  obtain ⟨b, hc, _⟩ := DataW.trod_bool ht h
  exact ⟨b, hc⟩
theorem opens_str {P : Program} {t : TypeId} (ht : P.underlying t = some .string) : Opens P t pStr := by
  intro H enc w base spare held fuel cs x h _
  obtain ⟨s, hc, _, hs⟩ := DataW.trod_string ht h
  exact ⟨s, hc, hs⟩

theorem row_mem {a : Addr} {n i : Nat} (h : i < n) : ∃ q ∈ MemPlace.row a n, q.block = a.block := by
  unfold MemPlace.row
  cases n with
  | zero => omega
  | succ n => exact ⟨_, List.mem_map.2 ⟨0, by simp, rfl⟩, by simp [MemPlace.block]⟩

theorem opens_slice {P : Program} {t e : TypeId} {size : Nat} {p : CellsP} (ht : P.underlying t = some (.slice e)) (hsz : P.cellsOf e = size) (hpos : 0 < size) (he : Opens P e p) : Opens P t (pSlice size p) := by
  intro H enc w base spare held fuel cs x h hx
  rcases DataW.trod_slice ht h with ⟨rfl, _⟩ | ⟨a, len, cap, elems, rest, n, _, rfl, rfl, hb, hl, hm, hlen, hel, _, _⟩
  · exact ⟨none, 0, 0, rfl, Nat.le_refl _, Nat.zero_le _, fun _ => rfl, fun i hi => absurd hi (Nat.not_lt_zero _)⟩
  · refine ⟨some a, len, cap, rfl, hl, hm, by simp, fun i hi => ?_⟩
    have hk := hel i hi
    rw [hsz] at hk
    have hi' : i < elems.length := by omega
    rw [List.getElem?_eq_getElem hi'] at hk
    obtain ⟨es, h1, h2⟩ := Option.bind_eq_some_iff.1 hk
    obtain ⟨_, hesl, hcell⟩ := World.cells?_some h1
    have hsp : a.spot = none := by
      have hk0 := hel 0 (by omega)
      rw [hsz, List.getElem?_eq_getElem (show 0 < elems.length by omega)] at hk0
      obtain ⟨es0, h10, _⟩ := Option.bind_eq_some_iff.1 hk0
      obtain ⟨_, hesl0, hcell0⟩ := World.cells?_some h10
      have h0 := hcell0 0 hpos
      rw [show (a.add (0 * size)).add 0 = a by simp [Addr.add]] at h0
      have hsome : ∃ v, w.cell? a = some v := ⟨es0[0]'(by omega), by rw [h0]; simp⟩
      obtain ⟨v, hv⟩ := hsome
      exact World.cell?_spot hv
    obtain ⟨b, off, sp⟩ := a
    simp only at hsp
    subst hsp
    refine ⟨b, off, rfl, ?_, es, hesl, fun j hj => ?_, ?_⟩
    · obtain ⟨q, hq, hqb⟩ := row_mem (a := ⟨b, off, none⟩) (n := (elems.length + rest.length) * P.cellsOf e) (i := 0) (by rw [hsz]; exact Nat.mul_pos (by omega) hpos)
      have := hx q (List.mem_append_left _ hq)
      rw [hqb] at this
      exact this
    · have := hcell j hj
      rw [add_plain, add_plain, Nat.add_assoc] at this
      exact this
    · refine he H enc w base spare held n es _ h2 (fun q hq => hx q (List.mem_append_right _ ?_))
      exact List.mem_flatMap.2 ⟨elems[i], List.mem_append_left _ (List.getElem_mem hi'), hq⟩

theorem opens_array {P : Program} {t e : TypeId} {n size : Nat} {p : CellsP} (ht : P.underlying t = some (.array n e)) (hsz : P.cellsOf e = size) (htot : P.cellsOf t = n * size) (he : Opens P e p) : Opens P t (pArray n size p) := by
  intro H enc w base spare held fuel cs x h hx
  obtain ⟨xs, m, _, rfl, hl, hxs, hel⟩ := DataW.trod_array ht h
  refine ⟨by rw [hl, htot], fun i hi => ?_⟩
  have hk := hel i hi
  rw [hsz, List.getElem?_eq_getElem (by omega)] at hk
  exact he H enc w base spare held m _ _ hk (fun q hq => hx q (List.mem_flatMap.2 ⟨xs[i], List.getElem_mem _, hq⟩))

theorem opens_struct {P : Program} {t : TypeId} {fs : Array Field} {total : Nat} {ps : List (Nat × Nat × CellsP)} (ht : P.underlying t = some (.struct fs)) (htot : P.cellsOf t = total)
    (hfs : ∀ q ∈ ps, ∃ (i : Nat) (f : Field), fs[i]? = some f ∧ f.offset = q.1 ∧ P.cellsOf f.type = q.2.1 ∧ Opens P f.type q.2.2) : Opens P t (pFields total ps) := by
  intro H enc w base spare held fuel cs x h hx
  obtain ⟨xs, m, _, rfl, hl, hxs, hel⟩ := DataW.trod_struct ht h
  refine ⟨by rw [hl, htot], fun q hq => ?_⟩
  obtain ⟨i, f, hf, ho, hc, hop⟩ := hfs q hq
  have hk := hel i f hf
  have hi : i < fs.size := (Array.getElem?_eq_some_iff.1 hf).1
  rw [List.getElem?_eq_getElem (by omega), ho, hc] at hk
  exact hop H enc w base spare held m _ _ hk (fun q' hq' => hx q' (List.mem_flatMap.2 ⟨xs[i], List.getElem_mem _, hq'⟩))

/-- An argument that is a struct or an array by value is its cells. -/
theorem agg_form {P : Program} {w : World} {r : Reach} {base : Nat} {t : TypeId} {v : Value} (ht : (∃ fs, P.underlying t = some (.struct fs)) ∨ ∃ n e, P.underlying t = some (.array n e)) (h : Value.okWide P w r base t v) : ∃ cs : List Value, v = .agg cs.toArray := by
  rcases ht with ⟨fs, ht⟩ | ⟨n, e, ht⟩
  all_goals
    unfold Value.okWide at h
    rw [ht] at h
    obtain ⟨cs, rfl, _⟩ := h
    exact ⟨cs.toList, by simp⟩

theorem opened {H : Type} {enc : TypeId × Value → H} {P : Program} {w : World} {base : Nat} {spare : Nat → Bool} {held : Bool} {t : TypeId} {v : Value} {d : DataW H} {ps : List MemPlace} {p : CellsP}
    (ho : Opens P t p) (hd : DataW.Trod enc P w base spare held t v d ps) : p w v.cells.toList := by
  obtain ⟨fuel, hf⟩ := hd
  exact ho H enc w base spare held fuel _ _ hf (DataW.trod_lt fuel _ _ _ hf)

/-- a list of integers, as an array of them holds it. -/
theorem ints_of_array {k : IntKind} {n : Nat} {w : World} {cs : List Value} (h : pArray n 1 (pInt k) w cs) : ∃ zs : List Int, cs = zs.map (Value.int k) ∧ zs.length = n ∧ ∀ z ∈ zs, (Lit.int k z).wf = true := by
  obtain ⟨hl, he⟩ := h
  simp only [Nat.mul_one] at hl
  induction n generalizing cs with
  | zero => exact ⟨[], by simpa using hl, rfl, by simp⟩
  | succ n ih =>
    cases cs with
    | nil => simp at hl
    | cons c cs =>
      obtain ⟨z, hz, hw⟩ := he 0 (by omega)
      simp only [Nat.zero_mul, List.drop_zero, List.take_succ_cons, List.take_zero, List.cons.injEq, and_true] at hz
      obtain ⟨zs, h1, h2, h3⟩ := ih (cs := cs) (fun i hi => by
        have := he (i + 1) (by omega)
        simpa using this) (by simpa using hl)
      refine ⟨z :: zs, by rw [hz, h1]; rfl, by simp [h2], fun y hy => ?_⟩
      rcases List.mem_cons.1 hy with rfl | hy
      · exact hw
      · exact h3 y hy

/-- a list of integers, as a slice that came in holds it: its elements. -/
theorem ints_of_slice {k : IntKind} {w : World} {cs : List Value} (h : pSlice 1 (pInt k) w cs) : ∃ a len cap, ∃ xs : List Int, cs = [.slice a len cap] ∧ xs.length = len ∧ len ≤ cap ∧ cap ≤ maxLen ∧ (a = none → cap = 0) ∧
    (∀ i, i < xs.length → ∃ b off, a = some ⟨b, off, none⟩ ∧ w.cell? ⟨b, off + i, none⟩ = some (.int k (xs.getD i 0))) ∧ (∀ x ∈ xs, (Lit.int k x).wf = true) ∧ (∀ b off, a = some ⟨b, off, none⟩ → xs ≠ [] → b < w.heap.size) := by
  obtain ⟨a, len, cap, rfl, hl, hm, hn, he⟩ := h
  have key : ∀ m, m ≤ len → ∃ xs : List Int, xs.length = m ∧ (∀ i, i < xs.length → ∃ b off, a = some ⟨b, off, none⟩ ∧ w.cell? ⟨b, off + i, none⟩ = some (.int k (xs.getD i 0))) ∧ (∀ x ∈ xs, (Lit.int k x).wf = true) := by
    intro m
    induction m with
    | zero => intro _; exact ⟨[], rfl, fun i hi => absurd hi (Nat.not_lt_zero _), by simp⟩
    | succ m ih =>
      intro hm
      obtain ⟨xs, h1, h2, h3⟩ := ih (by omega)
      obtain ⟨b, off, ha, hb, es, hes, hc, n, rfl, hw⟩ := he m (by omega)
      refine ⟨xs ++ [n], by simp [h1], fun i hi => ?_, fun x hx => ?_⟩
      · by_cases c : i < xs.length
        · obtain ⟨b', off', e1, e2⟩ := h2 i c
          exact ⟨b', off', e1, by rw [e2]; simp [List.getD, List.getElem?_append_left c]⟩
        · obtain rfl : i = m := by simp at hi; omega
          refine ⟨b, off, ha, ?_⟩
          have := hc 0 (by omega)
          simp only [Nat.mul_one, Nat.add_zero] at this
          rw [this, ← h1]
          simp
      · rcases List.mem_append.1 hx with h | h
        · exact h3 x h
        · simp at h; subst h; exact hw
  obtain ⟨xs, h1, h2, h3⟩ := key len (Nat.le_refl _)
  refine ⟨a, len, cap, xs, rfl, h1, hl, hm, hn, h2, h3, fun b off ha hne => ?_⟩
  have hpos : 0 < len := by
    cases xs with
    | nil => exact absurd rfl hne
    | cons => simp at h1; omega
  obtain ⟨b', off', ha', hb', _⟩ := he 0 hpos
  rw [ha] at ha'
  simp at ha'
  obtain ⟨rfl, rfl⟩ := ha'
  exact hb'

/-- a slice that came in, as a list of what its elements are. -/
theorem list_of_slice {α : Type} [Inhabited α] {size : Nat} {p : CellsP} {w : World} {cs : List Value} (enc : α → List Value) (ok : α → Prop) (hp : ∀ es, p w es → ∃ x : α, es = enc x ∧ ok x) (h : pSlice size p w cs) :
    ∃ a len cap, ∃ l : List α, cs = [.slice a len cap] ∧ l.length = len ∧ len ≤ cap ∧ cap ≤ maxLen ∧ (a = none → cap = 0) ∧
      (∀ i, i < l.length → ∃ b off, a = some ⟨b, off, none⟩ ∧ b < w.heap.size ∧ ∀ j, j < size → w.cell? ⟨b, off + (i * size + j), none⟩ = (enc (l.getD i default))[j]?) ∧ ∀ x ∈ l, ok x := by
  obtain ⟨a, len, cap, rfl, hl, hm, hn, he⟩ := h
  obtain ⟨f, hf⟩ := Go.Deep.choose_lt (n := len) (p := fun i (x : α) => ∃ b off, a = some ⟨b, off, none⟩ ∧ b < w.heap.size ∧ (∀ j, j < size → w.cell? ⟨b, off + (i * size + j), none⟩ = (enc x)[j]?) ∧ ok x) (fun i hi => by
    obtain ⟨b, off, ha, hb, es, _, hc, hpe⟩ := he i hi
    obtain ⟨x, rfl, hx⟩ := hp es hpe
    exact ⟨x, b, off, ha, hb, hc, hx⟩)
  refine ⟨a, len, cap, (List.range len).map f, rfl, by simp, hl, hm, hn, fun i hi => ?_, fun x hx => ?_⟩
  · have hi' : i < len := by simpa using hi
    obtain ⟨b, off, ha, hb, hc, _⟩ := hf i hi'
    refine ⟨b, off, ha, hb, fun j hj => ?_⟩
    rw [hc j hj]
    simp [List.getD, hi']
  · obtain ⟨i, hi, rfl⟩ := List.mem_map.1 hx
    exact (hf i (List.mem_range.1 hi)).choose_spec.choose_spec.2.2.2

theorem list2 {α : Type} {l : List α} (h : l.length = 2) : ∃ a b, l = [a, b] := by
  match l, h with
  | [a, b], _ => exact ⟨a, b, rfl⟩
theorem list3 {α : Type} {l : List α} (h : l.length = 3) : ∃ a b c, l = [a, b, c] := by
  match l, h with
  | [a, b, c], _ => exact ⟨a, b, c, rfl⟩
theorem list4 {α : Type} {l : List α} (h : l.length = 4) : ∃ a b c d, l = [a, b, c, d] := by
  match l, h with
  | [a, b, c, d], _ => exact ⟨a, b, c, d, rfl⟩
end Go.Proofs.Ytcleaamjfjnkkaa
