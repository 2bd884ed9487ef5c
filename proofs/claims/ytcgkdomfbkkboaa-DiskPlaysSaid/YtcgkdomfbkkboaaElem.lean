/- Lists of elements that take several cells each, in memory: that came in, and that the call owns. -/
import Derived.Test.YtcgkdomfbkkboaaBase
import Derived.Laws.AppendOwnNone
import Derived.Maps.AppendAt
namespace Go.Proofs.Ytcgkdomfbkkboaa
open Go.RowKit Go.Joins

/-- an encoding of elements into sz cells each. -/
structure Enc {α : Type} (enc : α → List Value) (sz : Nat) : Prop where
  len : ∀ x, (enc x).length = sz
  one : ∀ x, ∀ u ∈ enc x, u.oneCell' = true
  pos : 0 < sz
section
variable {α : Type} {enc : α → List Value} {sz : Nat}

/-- the cells of a list. -/
def flatOf (enc : α → List Value) (xs : List α) : List Value := xs.flatMap enc
theorem flatOf_length (E : Enc enc sz) (xs : List α) : (flatOf enc xs).length = xs.length * sz := by
  induction xs with
  | nil => simp [flatOf]
  | cons x xs ih => simp only [flatOf, List.flatMap_cons, List.length_append, List.length_cons] at ih ⊢; rw [ih, E.len, Nat.add_mul]; omega
theorem flatOf_append (xs ys : List α) : flatOf enc (xs ++ ys) = flatOf enc xs ++ flatOf enc ys := by simp [flatOf]
theorem flatOf_one (E : Enc enc sz) (xs : List α) : ∀ u ∈ flatOf enc xs, u.oneCell' = true := by
  intro u hu
  obtain ⟨x, _, hx⟩ := List.mem_flatMap.1 hu
  exact E.one x u hx
theorem flatOf_get [Inhabited α] (E : Enc enc sz) (xs : List α) : ∀ (i j : Nat), j < sz → i < xs.length → (flatOf enc xs)[i * sz + j]? = (enc (xs.getD i default))[j]? := by
  induction xs with
  | nil => intro i j _ hi; simp at hi
  | cons x xs ih =>
    intro i j hj hi
    have hl := E.len x
    cases i with
    | zero =>
      simp only [flatOf, List.flatMap_cons]
      rw [List.getElem?_append_left (by omega)]
      simp
    | succ i =>
      have := ih i j hj (by simpa using hi)
      simp only [flatOf, List.flatMap_cons] at this ⊢
      have e : (i + 1) * sz + j = sz + (i * sz + j) := by rw [Nat.add_mul]; omega
      rw [List.getElem?_append_right (by omega)]
      rw [e, hl, Nat.add_sub_cancel_left, this]
      simp
theorem flatOf_take (E : Enc enc sz) (xs : List α) (n : Nat) : flatOf enc (xs.take n) = (flatOf enc xs).take (n * sz) := by
  have h := flatOf_append (enc := enc) (xs.take n) (xs.drop n)
  rw [List.take_append_drop] at h
  by_cases hn : n ≤ xs.length
  · have hl : (flatOf enc (xs.take n)).length = n * sz := by rw [flatOf_length E, List.length_take, Nat.min_eq_left hn]
    rw [h, ← hl, List.take_left]
  · rw [List.take_of_length_le (by omega), List.take_of_length_le]
    rw [flatOf_length E]
    exact Nat.mul_le_mul_right _ (by omega)
theorem flatOf_drop (E : Enc enc sz) (xs : List α) (n : Nat) (hn : n ≤ xs.length) : flatOf enc (xs.drop n) = (flatOf enc xs).drop (n * sz) := by
  have h := flatOf_append (enc := enc) (xs.take n) (xs.drop n)
  rw [List.take_append_drop] at h
  have hl : (flatOf enc (xs.take n)).length = n * sz := by rw [flatOf_length E, List.length_take, Nat.min_eq_left hn]
  rw [h, ← hl, List.drop_left]

/-- cells that lie one behind the other. -/
def CellsAt (w : World) (b o : Nat) (vs : List Value) : Prop := ∀ j u, vs[j]? = some u → w.cell? ⟨b, o + j, none⟩ = some u
theorem CellsAt.below {w w' : World} {b o : Nat} {vs : List Value} (h : CellsAt w b o vs) (hb : Below w.heap.size w w') : CellsAt w' b o vs := fun j u hu =>
  (hb.cell (p := ⟨b, o + j, none⟩) (World.block_lt_of_cell? _ _ (h j u hu))).trans (h j u hu)
theorem CellsAt.mod {S : Nat → Prop} {w w' : World} {b o : Nat} {vs : List Value} (h : CellsAt w b o vs) (hm : Mod S w w') (hs : ¬ S b) : CellsAt w' b o vs := fun j u hu => hm.cell (h j u hu) hs

/-- elements of a slice. -/
def Lst [Inhabited α] (enc : α → List Value) (sz : Nat) (w : World) (a : Option Addr) (xs : List α) : Prop :=
  ∀ i, i < xs.length → ∃ b off, a = some ⟨b, off, none⟩ ∧ CellsAt w b (off + i * sz) (enc (xs.getD i default))
theorem Lst.below [Inhabited α] {w w' : World} {a : Option Addr} {xs : List α} (h : Lst enc sz w a xs) (hb : Below w.heap.size w w') : Lst enc sz w' a xs := by
  intro i hi
  obtain ⟨b, off, e, hc⟩ := h i hi
  exact ⟨b, off, e, hc.below hb⟩
theorem Lst.take [Inhabited α] {w : World} {a : Option Addr} {xs : List α} (h : Lst enc sz w a xs) (n : Nat) : Lst enc sz w a (xs.take n) := by
  intro i hi
  simp only [List.length_take] at hi
  obtain ⟨b, off, e, hc⟩ := h i (by omega)
  refine ⟨b, off, e, ?_⟩
  have : (xs.take n).getD i default = xs.getD i default := by simp [List.getD_eq_getElem?_getD, show i < n by omega]
  rw [this]; exact hc
theorem Lst.drop [Inhabited α] {w : World} {b off : Nat} {xs : List α} (h : Lst enc sz w (some ⟨b, off, none⟩) xs) (n : Nat) : Lst enc sz w (some ⟨b, off + n * sz, none⟩) (xs.drop n) := by
  intro i hi
  simp only [List.length_drop] at hi
  obtain ⟨b', off', e, hc⟩ := h (n + i) (by omega)
  simp at e; obtain ⟨rfl, rfl⟩ := e
  refine ⟨b, off + n * sz, rfl, ?_⟩
  have : (xs.drop n).getD i default = xs.getD (n + i) default := by simp [List.getD_eq_getElem?_getD]
  rw [this, Nat.add_assoc, ← Nat.add_mul]; exact hc
theorem Lst.news [Inhabited α] (E : Enc enc sz) {w : World} {ad : Addr} {xs : List α} (h : Lst enc sz w (some ad) xs) : ∀ j u, (flatOf enc xs)[j]? = some u → w.cell? (ad.add j) = some u := by
  intro j u hu
  have hj : j < xs.length * sz := by rw [← flatOf_length E]; exact (List.getElem?_eq_some_iff.1 hu).1
  have hd : sz * (j / sz) + j % sz = j := Nat.div_add_mod j sz
  have hlt : j / sz < xs.length := by rw [Nat.div_lt_iff_lt_mul E.pos]; exact hj
  have hm : j % sz < sz := Nat.mod_lt _ E.pos
  obtain ⟨b, off, e, g⟩ := h (j / sz) hlt
  simp at e
  subst e
  rw [Go.WideShapes.add_plain]
  have hf := flatOf_get E xs (j / sz) (j % sz) hm hlt
  have hd2 : j / sz * sz + j % sz = j := by rw [Nat.mul_comm]; exact hd
  rw [hd2, hu] at hf
  have := g (j % sz) u hf.symm
  rw [show off + j = off + j / sz * sz + j % sz by omega]
  exact this
/-- a slice that may be cut and appended. -/
structure Sli [Inhabited α] (enc : α → List Value) (sz : Nat) (w : World) (a : Option Addr) (cap : Nat) (xs : List α) : Prop where
  lst : Lst enc sz w a xs
  nil0 : a = none → cap = 0
  len : xs.length ≤ cap
  capm : cap ≤ maxLen
  plain : ∀ ad, a = some ad → ∃ b off, ad = ⟨b, off, none⟩
theorem Sli.below [Inhabited α] {w w' : World} {a : Option Addr} {cap : Nat} {xs : List α} (h : Sli enc sz w a cap xs) (hb : Below w.heap.size w w') : Sli enc sz w' a cap xs := ⟨h.lst.below hb, h.nil0, h.len, h.capm, h.plain⟩
theorem Sli.take [Inhabited α] {w : World} {a : Option Addr} {cap : Nat} {xs : List α} (h : Sli enc sz w a cap xs) (n : Nat) : Sli enc sz w a cap (xs.take n) := ⟨h.lst.take n, h.nil0, by have := h.len; simp; omega, h.capm, h.plain⟩
theorem Sli.nil [Inhabited α] (w : World) : Sli enc sz w none 0 ([] : List α) := ⟨fun i hi => by simp at hi, fun _ => rfl, Nat.zero_le _, Nat.zero_le _, fun _ e => by cases e⟩
theorem Sli.empty [Inhabited α] {w : World} {cap : Nat} {xs : List α} (h : Sli enc sz w none cap xs) : xs = [] ∧ cap = 0 := by
  have h0 := h.nil0 rfl
  have := h.len
  exact ⟨List.eq_nil_of_length_eq_zero (by omega), h0⟩

/-- the call owns these elements. -/
def OwnL (enc : α → List Value) (sz : Nat) (e : TypeId) (w : World) (base : Nat) (v : Value) (xs : List α) : Prop := w.ownsRow base e sz v xs.length (flatOf enc xs)
variable {e : TypeId} {w : World} {base : Nat} {v : Value} {xs : List α}
theorem ownL_nil (w : World) (base : Nat) : OwnL enc sz e w base (.slice none 0 0) [] := World.ownsRow_nil _ _ _ _
theorem OwnL.mono {base' : Nat} (h : OwnL enc sz e w base v xs) (hb : base' ≤ base) : OwnL enc sz e w base' v xs := by
  refine ⟨h.1, ?_⟩
  rcases h.2 with h2 | ⟨g, cap, cur, e1, e2, r⟩
  · exact .inl h2
  · exact .inr ⟨g, cap, cur, e1, by omega, r⟩
theorem OwnL.below {w' : World} (h : OwnL enc sz e w base v xs) (hb : Below w.heap.size w w') : OwnL enc sz e w' base v xs := own_below h hb
theorem OwnL.mod {S : Nat → Prop} {w' : World} (h : OwnL enc sz e w base v xs) (hm : Mod S w w') (hs : ∀ g, v.ownBlock = some g → ¬ S g) : OwnL enc sz e w' base v xs := hm.own h hs
theorem OwnL.sli [Inhabited α] (E : Enc enc sz) (h : OwnL enc sz e w base v xs) : ∃ a cap, v = .slice a xs.length cap ∧ Sli enc sz w a cap xs ∧ (∀ b off, a = some ⟨b, off, none⟩ → base ≤ b ∧ b < w.heap.size) := by
  rcases h.2 with ⟨rfl, h0⟩ | ⟨g, cap, cur, rfl, hb, hg, h1, h2, _⟩
  · have : xs = [] := List.eq_nil_of_length_eq_zero h0
    subst this
    exact ⟨none, 0, rfl, Sli.nil _, by simp⟩
  · refine ⟨some ⟨g, 0, none⟩, cap, rfl, ⟨fun i hi => ⟨g, 0, rfl, fun j u hu => ?_⟩, by simp, h1, h2, fun ad e => by simp at e; exact ⟨_, _, e.symm⟩⟩, fun b off e => ?_⟩
    · have hj : j < sz := by rw [← E.len (xs.getD i default)]; exact (List.getElem?_eq_some_iff.1 hu).1
      have := h.cells (g := g) rfl (i * sz + j) u (by rw [flatOf_get E xs i j hj hi]; exact hu)
      rw [Go.WideShapes.add_plain] at this
      rw [Nat.add_assoc]
      exact this
    · simp at e; obtain ⟨rfl, _⟩ := e; exact ⟨hb, (Array.getElem?_eq_some_iff.1 hg).1⟩
theorem OwnL.slix [Inhabited α] (E : Enc enc sz) {n c : Nat} {a : Option Addr} (h : OwnL enc sz e w base (.slice a n c) xs) : Sli enc sz w a c xs := by
  obtain ⟨a', c', e, hs, _⟩ := h.sli E
  simp at e
  obtain ⟨rfl, _, rfl⟩ := e
  exact hs
theorem OwnL.form (h : OwnL enc sz e w base v xs) (h0 : 0 < xs.length) : ∃ g cap, v = .slice (some ⟨g, 0, none⟩) xs.length cap ∧ base ≤ g ∧ g < w.heap.size := by
  rcases h.2 with ⟨_, e⟩ | ⟨g, cap, cur, e, hb, hg, _⟩
  · omega
  · exact ⟨g, cap, e, hb, (Array.getElem?_eq_some_iff.1 hg).1⟩
theorem OwnL.block (h : OwnL enc sz e w base v xs) {g : Nat} (hg : v.ownBlock = some g) : base ≤ g ∧ ∃ cur, w.heap[g]? = some (.cells cur e (0, 0)) := by
  rcases h.2 with ⟨rfl, _⟩ | ⟨g', cap, cur, rfl, hb, hh, _⟩
  · simp [Value.ownBlock] at hg
  · simp [Value.ownBlock] at hg; subst hg; exact ⟨hb, cur, hh⟩
/-- a list that was just laid. -/
theorem sli_lit [Inhabited α] (E : Enc enc sz) (w : World) (xs : List α) (n o : Nat) (t : TypeId) (ho : o = w.heap.size) (hn : xs.length = n) (hm : n ≤ maxLen) : Sli enc sz (w.alloc (.cells (flatOf enc xs).toArray t)) (some ⟨o, 0, none⟩) n xs := by
  subst ho hn
  refine ⟨fun i hi => ⟨_, 0, rfl, fun j u hu => ?_⟩, by simp, Nat.le_refl _, hm, fun ad e => by simp at e; exact ⟨_, _, e.symm⟩⟩
  have hj : j < sz := by rw [← E.len (xs.getD i default)]; exact (List.getElem?_eq_some_iff.1 hu).1
  rw [Nat.zero_add, World.cell?_alloc_at _ _ _ _ rfl]
  have := flatOf_get E xs i j hj hi
  rw [hu] at this
  simpa using this

/-- what the table says of an element's type. -/
structure Tab (P : Program) (t e : TypeId) (sz bytes : Nat) : Prop where
  und : P.underlying t = some (.slice e)
  inf : ∃ i z, P.info? e = some i ∧ i.zero = some z ∧ i.size = sz ∧ i.bytes = bytes ∧ z.cells.size = sz
/-- append of elements, nil or not, onto a row that the call owns; where the row lies then. -/
theorem run_app [Inhabited α] (E : Enc enc sz) {P : Program} {t ty : TypeId} {bytes : Nat} (T : Tab P t e sz bytes) (hown : OwnL enc sz e w base v xs)
    (sa : Option Addr) (c : Nat) (ys : List α) (hE : Lst enc sz w sa ys) (hnone : sa = none → c = 0)
    (hb : (xs.length + ys.length) * bytes ≤ 140737488355328) (hm : xs.length + ys.length ≤ maxLen) (hbase : base ≤ w.heap.size) :
    ∃ v' w', (Builtin.append_ #[t, t] ty #[v, .slice sa ys.length c]).run P w = .ok v' w' ∧ OwnL enc sz e w' base v' (xs ++ ys) ∧ w.grownBy w' v.ownBlock ∧ (∀ g, v'.ownBlock = some g → v.ownBlock = some g ∨ w.heap.size ≤ g) := by
  obtain ⟨i, z, hi, hz, h1, h2, h3⟩ := T.inf
  have fx : (flatOf enc xs).length = xs.length * sz := flatOf_length E xs
  have fy : (flatOf enc ys).length = ys.length * sz := flatOf_length E ys
  cases sa with
  | none =>
    obtain rfl := hnone rfl
    have h0 : ys = [] := by
      cases ys with
      | nil => rfl
      | cons y ys => obtain ⟨_, _, e, _⟩ := hE 0 (by simp); cases e
    subst h0
    exact ⟨v, w, run_append_owned_none (P := P) w base t ty e i sz T.und hi v xs.length (flatOf enc xs) hown, by rw [List.append_nil]; exact hown, ⟨rfl, rfl, rfl, Nat.le_refl _, fun _ _ _ => rfl⟩, fun g hg => .inl hg⟩
  | some ad =>
    obtain ⟨v', w', hrun, ho, hg, _, hat⟩ := run_append_own_at (P := P) w base t ty e i z sz bytes T.und hi hz h1 h2 h3 E.pos v xs.length (flatOf enc xs) hown ad ys.length c (flatOf enc ys) fy (hE.news E) (flatOf_one E ys) hm hb hbase
    refine ⟨v', w', hrun, by unfold OwnL; rw [List.length_append, flatOf_append]; exact ho, hg, fun g hvg => ?_⟩
    rcases hat with h | h
    · exact .inl (h ▸ hvg)
    · rw [h] at hvg; cases hvg; exact .inr (Nat.le_refl _)
theorem wp_app [Inhabited α] (E : Enc enc sz) {P : Program} {t : TypeId} {bytes : Nat} (T : Tab P t e sz bytes) {o : Oper} {a : Act} {K : Act → World → Prop} {Q : Exit → Act → World → Prop} (s x : Operand)
    (ho : o.op = .call { callee := .builtin .append, args := #[s, x], argTypes := #[t, t] }) (hs : a.eval s = v) (hown : OwnL enc sz e w base v xs)
    (sa : Option Addr) (n c : Nat) (ys : List α) (hn : ys.length = n) (hx : a.eval x = .slice sa n c) (hE : Lst enc sz w sa ys) (hnone : sa = none → c = 0)
    (hb : (xs.length + ys.length) * bytes ≤ 140737488355328) (hm : xs.length + ys.length ≤ maxLen) (hbase : base ≤ w.heap.size)
    (h : ∀ v' w', OwnL enc sz e w' base v' (xs ++ ys) → w.grownBy w' v.ownBlock → (∀ g, v'.ownBlock = some g → v.ownBlock = some g ∨ w.heap.size ≤ g) → K (a.put o.dst v') w') : o.wp P a w K Q := by
  subst hn
  obtain ⟨v', w', hrun, h2, h3, h4⟩ := run_app (ty := o.type) E T hown sa c ys hE hnone hb hm hbase
  unfold Oper.wp execOp
  simp only [ho, resolve, invoke, builtin, Sem.run_bind, Sem.run_pure, Result.andThen_ok, List.map_toArray, List.map_cons, List.map_nil, hs, hx, hrun]
  exact h v' w' h2 h3 h4
theorem wpList_app [Inhabited α] (E : Enc enc sz) {P : Program} {t : TypeId} {bytes : Nat} (T : Tab P t e sz bytes) {ops : Array Oper} {rest : List Oper} {o : Oper} {a : Act} {Q : Exit → Act → World → Prop} (hgd : o.guard = none) (s x : Operand)
    (ho : o.op = .call { callee := .builtin .append, args := #[s, x], argTypes := #[t, t] }) (hs : a.eval s = v) (hown : OwnL enc sz e w base v xs)
    (sa : Option Addr) (n c : Nat) (ys : List α) (hn : ys.length = n) (hx : a.eval x = .slice sa n c) (hE : Lst enc sz w sa ys) (hnone : sa = none → c = 0)
    (hb : (xs.length + ys.length) * bytes ≤ 140737488355328) (hm : xs.length + ys.length ≤ maxLen) (hbase : base ≤ w.heap.size)
    (h : ∀ v' w', OwnL enc sz e w' base v' (xs ++ ys) → w.grownBy w' v.ownBlock → (∀ g, v'.ownBlock = some g → v.ownBlock = some g ∨ w.heap.size ≤ g) → wpList P ops Q rest (a.put o.dst v') w') : wpList P ops Q (o :: rest) a w :=
  wpList_plain hgd fun _ hK => wp_app E T s x ho hs hown sa n c ys hn hx hE hnone hb hm hbase fun v' w' h2 h3 h4 => hK _ _ (h v' w' h2 h3 h4)
/-- .. as a step of a region that draws its order. -/
theorem step_app [Inhabited α] (E : Enc enc sz) {P : Program} {t : TypeId} {bytes : Nat} (T : Tab P t e sz bytes) {ops : Array Oper} {o : Oper} {a : Act} {K : Act → World → Prop} {Q : Exit → Act → World → Prop} {X : Prop} (hg : o.guard = none) (s x : Operand)
    (ho : o.op = .call { callee := .builtin .append, args := #[s, x], argTypes := #[t, t] }) (hs : a.eval s = v) (hown : OwnL enc sz e w base v xs)
    (sa : Option Addr) (n c : Nat) (ys : List α) (hn : ys.length = n) (hx : a.eval x = .slice sa n c) (hE : Lst enc sz w sa ys) (hnone : sa = none → c = 0)
    (hb : (xs.length + ys.length) * bytes ≤ 140737488355328) (hm : xs.length + ys.length ≤ maxLen) (hbase : base ≤ w.heap.size)
    (h : ∀ v' w', OwnL enc sz e w' base v' (xs ++ ys) → w.grownBy w' v.ownBlock → (∀ g, v'.ownBlock = some g → v.ownBlock = some g ∨ w.heap.size ≤ g) → K (a.put o.dst v') w') :
    if Region.wanted o (yielded ops a.tmps) = true then o.wp P a w K Q else X := by
  have hw : Region.wanted o (yielded ops a.tmps) = true := by simp [Region.wanted, hg]
  rw [if_pos hw]
  exact wp_app E T s x ho hs hown sa n c ys hn hx hE hnone hb hm hbase h
end
end Go.Proofs.Ytcgkdomfbkkboaa
