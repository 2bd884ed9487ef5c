/- Lists of entries that the call makes. -/
import Derived.Test.YthfchmdfoaiibaaLeaf
import Derived.Laws.AppendOwnNone
namespace Go.Proofs.Ythfchmdfoaiibaa
open Go.RowKit Go.Joins

def encE (x : Ent) : List Value := [.int .u64 x.1, .int .i64 x.2.1, .int .u64 x.2.2.1, .int .u64 x.2.2.2]
def flat (es : List Ent) : List Value := es.flatMap encE
theorem flat_length (es : List Ent) : (flat es).length = es.length * 4 := by
  induction es with
  | nil => rfl
  | cons x xs ih => simp only [flat, List.flatMap_cons, List.length_append, List.length_cons] at ih ⊢; rw [ih]; simp [encE]; omega
theorem flat_append (xs ys : List Ent) : flat (xs ++ ys) = flat xs ++ flat ys := by simp [flat]
theorem flat_get (es : List Ent) : ∀ (i j : Nat), j < 4 → i < es.length → (flat es)[i * 4 + j]? = (encE (es.getD i default))[j]? := by
  induction es with
  | nil => intro i j _ hi; simp at hi
  | cons x xs ih =>
    intro i j hj hi
    cases i with
    | zero =>
      simp only [flat, List.flatMap_cons]
      rw [List.getElem?_append_left (by simp [encE]; omega)]
      simp
    | succ i =>
      have := ih i j hj (by simpa using hi)
      simp only [flat, List.flatMap_cons] at this ⊢
      rw [List.getElem?_append_right (by simp [encE]; omega)]
      have e : (i + 1) * 4 + j - (encE x).length = i * 4 + j := by simp [encE]; omega
      rw [e, this]
      simp
theorem flat_one (es : List Ent) : ∀ u ∈ flat es, u.oneCell' = true := by
  intro u hu
  obtain ⟨x, _, hx⟩ := List.mem_flatMap.1 hu
  simp [encE] at hx
  rcases hx with rfl | rfl | rfl | rfl <;> rfl

/-- the call owns these entries. -/
def OwnE (w : World) (base : Nat) (v : Value) (es : List Ent) : Prop := w.ownsRow base 33 4 v es.length (flat es)
theorem ownE_nil (w : World) (base : Nat) : OwnE w base (.slice none 0 0) [] := World.ownsRow_nil _ _ _ _
theorem OwnE.mono {w : World} {base base' : Nat} {v : Value} {es : List Ent} (h : OwnE w base v es) (hb : base' ≤ base) : OwnE w base' v es := by
  refine ⟨h.1, ?_⟩
  rcases h.2 with h2 | ⟨g, cap, cur, e1, e2, r⟩
  · exact .inl h2
  · exact .inr ⟨g, cap, cur, e1, by omega, r⟩
theorem ec_of_flat {w : World} {b off i : Nat} {es : List Ent} (hi : i < es.length) (h : ∀ j u, (flat es)[j]? = some u → w.cell? ⟨b, off + j, none⟩ = some u) : EC w b (off + i * 4) (es.getD i default) := by
  have h0 := h (i * 4 + 0) _ (by rw [flat_get es i 0 (by omega) hi]; rfl)
  have h1 := h (i * 4 + 1) _ (by rw [flat_get es i 1 (by omega) hi]; rfl)
  have h2 := h (i * 4 + 2) _ (by rw [flat_get es i 2 (by omega) hi]; rfl)
  have h3 := h (i * 4 + 3) _ (by rw [flat_get es i 3 (by omega) hi]; rfl)
  rw [show off + (i * 4 + 0) = off + i * 4 by omega] at h0
  rw [show off + (i * 4 + 1) = off + i * 4 + 1 by omega] at h1
  rw [show off + (i * 4 + 2) = off + i * 4 + 1 + 1 by omega] at h2
  rw [show off + (i * 4 + 3) = off + i * 4 + 1 + 1 + 1 by omega] at h3
  exact ⟨h0, h1, h2, h3⟩
/-- what the call owns, as a slice. -/
theorem own_ents {w : World} {base : Nat} {v : Value} {es : List Ent} (h : OwnE w base v es) :
    ∃ a cap, v = .slice a es.length cap ∧ Ents w a es ∧ (a = none → cap = 0) ∧ es.length ≤ cap ∧ cap ≤ maxLen ∧ (∀ b off, a = some ⟨b, off, none⟩ → base ≤ b ∧ b < w.heap.size) := by
  rcases h.2 with ⟨rfl, h0⟩ | ⟨g, cap, cur, rfl, hb, hg, h1, h2, _⟩
  · exact ⟨none, 0, by rw [h0], fun i hi => by omega, fun _ => rfl, by omega, Nat.zero_le _, by simp⟩
  · refine ⟨some ⟨g, 0, none⟩, cap, rfl, fun i hi => ⟨g, 0, rfl, ec_of_flat hi fun j u hu => ?_⟩, by simp, h1, h2, fun b off e => ?_⟩
    · have := h.cells (g := g) rfl j u hu
      rw [Go.WideShapes.add_plain] at this
      exact this
    · simp at e; obtain ⟨rfl, _⟩ := e; exact ⟨hb, (Array.getElem?_eq_some_iff.1 hg).1⟩
theorem ents_news {w : World} {ad : Addr} {es : List Ent} (h : Ents w (some ad) es) : ∀ j u, (flat es)[j]? = some u → w.cell? (ad.add j) = some u := by
  intro j u hu
  have hj : j < es.length * 4 := by rw [← flat_length]; exact (List.getElem?_eq_some_iff.1 hu).1
  obtain ⟨b, off, e, g0, g1, g2, g3⟩ := h (j / 4) (by omega)
  simp at e
  subst e
  rw [Go.WideShapes.add_plain]
  have hd : j / 4 * 4 + j % 4 = j := by omega
  have hf := flat_get es (j / 4) (j % 4) (by omega) (by omega)
  rw [hd, hu] at hf
  have hm : j % 4 = 0 ∨ j % 4 = 1 ∨ j % 4 = 2 ∨ j % 4 = 3 := by omega
  rcases hm with m | m | m | m <;> rw [m] at hf <;> simp [encE] at hf <;> subst hf
  · rw [show off + j = off + j / 4 * 4 by omega]; exact g0
  · rw [show off + j = off + j / 4 * 4 + 1 by omega]; exact g1
  · rw [show off + j = off + j / 4 * 4 + 1 + 1 by omega]; exact g2
  · rw [show off + j = off + j / 4 * 4 + 1 + 1 + 1 by omega]; exact g3

theorem info33 : (Try.prog.info? 33).map (fun i => (i.size, i.bytes)) = some (4, 32) := by kernel_rfl
theorem zero33 : ∃ i z, Try.prog.info? 33 = some i ∧ i.zero = some z ∧ i.size = 4 ∧ i.bytes = 32 ∧ z.cells.size = 4 := by
  refine ⟨_, _, rfl, rfl, rfl, rfl, rfl⟩
/-- append of entries, nil or not, onto a row that the call owns. -/
theorem app_ents {w : World} {ops : Array Oper} {rest : List Oper} {o : Oper} {a : Act} {Q : Exit → Act → World → Prop} (hgd : o.guard = none) (s x : Operand)
    (ho : o.op = .call { callee := .builtin .append, args := #[s, x], argTypes := #[22, 22] }) (base : Nat) (v : Value) (xs : List Ent) (hs : a.eval s = v) (hown : OwnE w base v xs)
    (sa : Option Addr) (n c : Nat) (ys : List Ent) (hn : ys.length = n) (hx : a.eval x = .slice sa n c) (hE : Ents w sa ys) (hnone : sa = none → c = 0)
    (hb : (xs.length + ys.length) * 32 ≤ 140737488355328) (hbase : base ≤ w.heap.size)
    (h : ∀ v' w', OwnE w' base v' (xs ++ ys) → w.grownBy w' v.ownBlock → wpList Try.prog ops Q rest (a.put o.dst v') w') : wpList Try.prog ops Q (o :: rest) a w := by
  obtain ⟨i, z, hi, hz, h1, h2, h3⟩ := zero33
  subst hn
  cases sa with
  | none =>
    obtain rfl := hnone rfl
    have h0 : ys = [] := by
      cases ys with
      | nil => rfl
      | cons y ys => obtain ⟨_, _, e, _⟩ := hE 0 (by simp); cases e
    subst h0
    refine wpList_append_own_none hgd s x 22 ho base 33 i 4 Try.underlying22 hi v xs.length (flat xs) hs hown hx ?_
    refine h v w (by rw [List.append_nil]; exact hown) ⟨rfl, rfl, rfl, Nat.le_refl _, fun _ _ _ => rfl⟩
  | some ad =>
    refine wpList_append_own w hgd s x 22 ho base 33 i z 4 32 Try.underlying22 hi hz h1 h2 h3 (by decide) v xs.length (flat xs) hs hown ad ys.length c (flat ys) hx (flat_length ys) (ents_news hE) (flat_one ys) (by unfold maxLen; omega) hb hbase ?_
    intro v' w' ho' hg _
    refine h v' w' ?_ hg
    unfold OwnE
    rw [List.length_append, flat_append]
    exact ho'

def OwnPost (es : List Ent) (w : World) (e : Ending) (w' : World) : Prop := ∃ v, e = .returned v ∧ OwnE w' w.heap.size v es ∧ Below w.heap.size w w'
theorem own_form {es : List Ent} {n : Nat} {w w' : World} {e : Ending} (h : OwnPost es w e w') (hn : es.length = n) : ∃ a cap, e = .returned (.slice a n cap) ∧ Ents w' a es ∧ (a = none → cap = 0) ∧ n ≤ cap ∧ cap ≤ maxLen ∧ (∀ b off, a = some ⟨b, off, none⟩ → w.heap.size ≤ b) ∧ Below w.heap.size w w' := by
  subst hn
  obtain ⟨v, rfl, ho, hb⟩ := h
  obtain ⟨a, cap, rfl, h1, h2, h3, h4, h5⟩ := own_ents ho
  exact ⟨a, cap, rfl, h1, h2, h3, h4, fun b off e => (h5 b off e).1, hb⟩

set_option maxRecDepth 100000 in
theorem own_any (a : Option Addr) (cap : Nat) (es : List Ent) (w : World) (hE : Ents w a es) (hnone : a = none → cap = 0) (hlen : es.length ≤ cap) (hcap : cap ≤ maxLen) :
    Calls Try.prog 11 #[.slice a es.length cap] w (OwnPost (es.take 400) w) := by
  unfold maxLen at hcap
  have hE4 := Lib.hid (ents_take hE 400)
  have HN := Lib.hid hnone
  have ht : (es.take 400).length ≤ 400 := by simp; omega
  clear hE hnone
  by_cases h : es.length ≤ 400
  · have hl : Hid ((es.take 400).length = es.length) := by simp [Hid]; omega
    have hli : (es.length : Int) ≤ 400 := by omega
    generalize es.take 400 = ys at *
    go_enter Try.func11, Try.ntmps11
    go_wp2_with (at_builtin; refine app_ents rfl _ _ rfl w.heap.size _ [] rfl (ownE_nil _ _) a es.length cap ys hl.out rfl hE4.out HN.out (by simp; omega) (Nat.le_refl _) ?_; intro v' w' hown' hgrow)
    go_ret
    exact ⟨_, rfl, hown', (Below.refl _ w).grown hgrow (Nat.le_refl _) (fun j hj => by cases hj)⟩
  · have hl : Hid ((es.take 400).length = 400) := by simp [Hid]; omega
    have hli : (400 : Int) < (es.length : Int) := by omega
    generalize es.take 400 = ys at *
    go_enter Try.func11, Try.ntmps11
    go_wp2_with (at_builtin; refine app_ents rfl _ _ rfl w.heap.size _ [] rfl (ownE_nil _ _) a 400 cap ys hl.out rfl hE4.out HN.out (by simp; omega) (Nat.le_refl _) ?_; intro v' w' hown' hgrow)
    go_ret
    exact ⟨_, rfl, hown', (Below.refl _ w).grown hgrow (Nat.le_refl _) (fun j hj => by cases hj)⟩
end Go.Proofs.Ythfchmdfoaiibaa
