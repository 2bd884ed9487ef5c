/- What the first entries of a log say: the step. -/
import Derived.Test.YthfchmdfoaiibaaCmp
import Derived.Test.YthfchmdfoaiibaaApp
import Derived.Test.YthfchmdfoaiibaaLater
import Derived.RangeFuncBox
namespace Go.Proofs.Ythfchmdfoaiibaa
open Go.RowKit Go.Joins

/-! ### Plain -/
def lastG (gs : List Gid) : Gid := gs.getD (gs.length - 1) default
/-- does an entry bring a guid? -/
def brings (s : Line) (e : Ent) : Bool := decide (e.2.1 = 3) && decide (e.1 = s.1) && decide (e.2.2.1 = e.1) && (decide (s.2.2.2.length = 0) || aboveB (e.2.2.1, e.2.2.2) (lastG s.2.2.2))
def lstep (s : Line) (e : Ent) : Line :=
  if e.2.1 = 1 then (e.1, (s.2.2.2.length : Int), false, s.2.2.2)
  else if e.2.1 = 2 ∧ e.1 = s.1 then (s.1, s.2.1, true, s.2.2.2)
  else if brings s e = true then (s.1, s.2.1, s.2.2.1, s.2.2.2 ++ [(e.2.2.1, e.2.2.2)])
  else s
def foldL (es : List Ent) : Line := es.foldl lstep (0, 0, false, [])

/-! ### Guids that the call owns -/
def encG (x : Gid) : List Value := [.int .u64 x.1, .int .u64 x.2]
def flatG (gs : List Gid) : List Value := gs.flatMap encG
theorem flatG_length (gs : List Gid) : (flatG gs).length = gs.length * 2 := by
  induction gs with
  | nil => rfl
  | cons x xs ih => simp only [flatG, List.flatMap_cons, List.length_append, List.length_cons] at ih ⊢; rw [ih]; simp [encG]; omega
theorem flatG_append (xs ys : List Gid) : flatG (xs ++ ys) = flatG xs ++ flatG ys := by simp [flatG]
theorem flatG_get (gs : List Gid) : ∀ (i j : Nat), j < 2 → i < gs.length → (flatG gs)[i * 2 + j]? = (encG (gs.getD i default))[j]? := by
  induction gs with
  | nil => intro i j _ hi; simp at hi
  | cons x xs ih =>
    intro i j hj hi
    cases i with
    | zero =>
      simp only [flatG, List.flatMap_cons]
      rw [List.getElem?_append_left (by simp [encG]; omega)]
      simp
    | succ i =>
      have := ih i j hj (by simpa using hi)
      simp only [flatG, List.flatMap_cons] at this ⊢
      rw [List.getElem?_append_right (by simp [encG]; omega)]
      have e : (i + 1) * 2 + j - (encG x).length = i * 2 + j := by simp [encG]; omega
      rw [e, this]
      simp
def OwnG (w : World) (base : Nat) (v : Value) (gs : List Gid) : Prop := w.ownsRow base 31 2 v gs.length (flatG gs)
theorem ownG_nil (w : World) (base : Nat) : OwnG w base (.slice none 0 0) [] := World.ownsRow_nil _ _ _ _
theorem own_gids {w : World} {base : Nat} {v : Value} {gs : List Gid} (h : OwnG w base v gs) :
    ∃ a cap, v = .slice a gs.length cap ∧ Gids w a gs ∧ (a = none → cap = 0) ∧ gs.length ≤ cap ∧ cap ≤ maxLen ∧ (∀ b off, a = some ⟨b, off, none⟩ → base ≤ b ∧ b < w.heap.size) := by
  rcases h.2 with ⟨rfl, h0⟩ | ⟨g, cap, cur, rfl, hb, hg, h1, h2, _⟩
  · exact ⟨none, 0, by rw [h0], fun i hi => by omega, fun _ => rfl, by omega, Nat.zero_le _, by simp⟩
  · refine ⟨some ⟨g, 0, none⟩, cap, rfl, fun i hi => ⟨g, 0, rfl, ?_⟩, by simp, h1, h2, fun b off e => ?_⟩
    · have hh : ∀ j u, (flatG gs)[j]? = some u → w.cell? ⟨g, 0 + j, none⟩ = some u := fun j u hu => by
        have := h.cells (g := g) rfl j u hu
        rw [Go.WideShapes.add_plain] at this
        exact this
      have h0 := hh (i * 2 + 0) _ (by rw [flatG_get gs i 0 (by omega) hi]; rfl)
      have h1 := hh (i * 2 + 1) _ (by rw [flatG_get gs i 1 (by omega) hi]; rfl)
      exact ⟨h0, h1⟩
    · simp at e; obtain ⟨rfl, _⟩ := e; exact ⟨hb, (Array.getElem?_eq_some_iff.1 hg).1⟩

/-- a line lies in a block; its guids are the call's own. -/
def LineIs (w : World) (B : Nat) (s : Line) (v : Value) : Prop := w.heap[B]? = some (.cells #[.int .u64 s.1, .int .i64 s.2.1, .bool s.2.2.1, v] 38 (0, 0))
structure LineAt (w : World) (base B : Nat) (s : Line) : Prop where
  at_ : ∃ v, LineIs w B s v ∧ OwnG w base v s.2.2.2
theorem own_ne {w : World} {base n B : Nat} {v : Value} {xs : List Value} {cs : Array Value} (h : w.ownsRow base 31 2 v n xs) (hB : w.heap[B]? = some (.cells cs 38 (0, 0))) : v.ownBlock = none ∨ v.ownBlock ≠ some B := by
  rcases h.2 with ⟨rfl, _⟩ | ⟨g, cap, cur, rfl, _, hg, _⟩
  · exact .inl rfl
  · refine .inr fun e => ?_
    simp [Value.ownBlock] at e
    subst e
    rw [hg] at hB
    injection hB with hB
    injection hB with _ ht
    cases ht
theorem grownBy_setCell (w : World) (B i : Nat) (u : Value) : w.grownBy (w.setCell ⟨B, i, none⟩ u) (some B) :=
  ⟨rfl, rfl, rfl, by simp [World.setCell], fun k _ hk => Below.heap_setCell _ _ _ _ (fun e => hk (by rw [e]))⟩
theorem OwnG.set {w : World} {base B : Nat} {v : Value} {gs : List Gid} {cs : Array Value} (h : OwnG w base v gs) (hB : w.heap[B]? = some (.cells cs 38 (0, 0))) (i : Nat) (u : Value) : OwnG (w.setCell ⟨B, i, none⟩ u) base v gs :=
  World.ownsRow.kept h (grownBy_setCell w B i u) (own_ne h hB)
end Go.Proofs.Ythfchmdfoaiibaa
