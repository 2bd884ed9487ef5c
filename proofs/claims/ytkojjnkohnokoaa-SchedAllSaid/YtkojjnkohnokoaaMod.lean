/- The plain model of a scheduler; queues of texts in memory. -/
import Derived.Test.YtkojjnkohnokoaaElem
import Derived.Test.YtkojjnkohnokoaaProg
import Derived.ArgAppend
namespace Go.Proofs.Ytkojjnkohnokoaa
open Go.RowKit Go.Joins

/-! ### The plain model -/
abbrev BA := ByteArray
def upd {α : Type} (f : Nat → α) (k : Nat) (x : α) : Nat → α := fun i => if i = k then x else f i
theorem upd_same {α : Type} (f : Nat → α) (k : Nat) (x : α) : upd f k x k = x := by simp [upd]
theorem upd_other {α : Type} {f : Nat → α} {k i : Nat} {x : α} (h : i ≠ k) : upd f k x i = f i := by simp [upd, h]
theorem upd_id {α : Type} (f : Nat → α) (k : Nat) : upd f k (f k) = f := by funext i; by_cases h : i = k <;> simp [upd, h]
theorem upd_upd {α : Type} (f : Nat → α) (k : Nat) (x y : α) : upd (upd f k x) k y = upd f k y := by funext i; by_cases h : i = k <;> simp [upd, h]

structure St where
  q : Nat → List BA
  c : Nat → Int
def new0 : St := ⟨fun _ => [], fun _ => 0⟩
def putS (s : St) (lk : Int) (b : BA) : St := if lk < 0 ∨ 6 ≤ lk ∨ b.size = 0 then s else if 8192 < b.size then s else if 4 ≤ (s.q lk.toNat).length then s else { s with q := upd s.q lk.toNat (s.q lk.toNat ++ [b]) }
def putE (s : St) (lk : Int) (b : BA) : Int := if lk < 0 ∨ 6 ≤ lk ∨ b.size = 0 then 2 else if 8192 < b.size then 3 else if 4 ≤ (s.q lk.toNat).length then 7 else 0
def bytes (l : List BA) : Int := (l.map fun b => (b.size : Int)).sum
def drain : List BA → Int → List BA × List BA × Int
  | [], c => ([], [], c)
  | x :: q, c => if (x.size : Int) ≤ c then (x :: (drain q (c - x.size)).1, (drain q (c - x.size)).2) else ([], x :: q, c)
/-- one link's part of a round. -/
def lround (q : List BA) (c : Int) : List BA × List BA × Int :=
  if q = [] then ([], [], c) else ((drain q (c + 80)).1, (drain q (c + 80)).2.1, if (drain q (c + 80)).2.1 = [] then 0 else (drain q (c + 80)).2.2)
abbrev Fr := Nat × BA
def roundTo : Nat → St → St × List Fr
  | 0, s => (s, [])
  | k + 1, s => (⟨upd (roundTo k s).1.q k (lround (s.q k) (s.c k)).2.1, upd (roundTo k s).1.c k (lround (s.q k) (s.c k)).2.2⟩, (roundTo k s).2 ++ (lround (s.q k) (s.c k)).1.map fun b => (k, b))
def roundS (s : St) : St := (roundTo 6 s).1
def roundF (s : St) : List Fr := (roundTo 6 s).2
def lenTo : Nat → St → Nat
  | 0, _ => 0
  | k + 1, s => lenTo k s + (s.q k).length
def lenS (s : St) : Nat := lenTo 6 s
def waitsS (s : St) (lk : Int) : Int := if lk < 0 ∨ 6 ≤ lk then 0 else bytes (s.q lk.toNat)
def GoodQ (l : List BA) : Prop := l.length ≤ 4 ∧ ∀ b ∈ l, 0 < b.size ∧ b.size ≤ 8192
def Good (s : St) : Prop := ∀ i, i < 6 → GoodQ (s.q i) ∧ 0 ≤ s.c i ∧ s.c i ≤ 8192

theorem bytes_nil : bytes [] = 0 := rfl
theorem bytes_cons (x : BA) (l : List BA) : bytes (x :: l) = x.size + bytes l := by simp [bytes]
theorem bytes_append (a b : List BA) : bytes (a ++ b) = bytes a + bytes b := by simp [bytes]
theorem bytes_nonneg (l : List BA) : 0 ≤ bytes l := by
  induction l with
  | nil => simp [bytes]
  | cons x l ih => rw [bytes_cons]; omega
theorem bytes_le {l : List BA} (h : GoodQ l) : bytes l ≤ 32768 := by
  have key : ∀ (l : List BA), (∀ b ∈ l, b.size ≤ 8192) → bytes l ≤ l.length * 8192 := by
    intro l
    induction l with
    | nil => intro _; simp [bytes]
    | cons x l ih =>
      intro h
      have := ih (fun b hb => h b (List.mem_cons_of_mem _ hb))
      have hx := h x (List.mem_cons_self ..)
      rw [bytes_cons, List.length_cons]
      push_cast
      omega
  have := key l (fun b hb => (h.2 b hb).2)
  have := h.1
  omega
theorem drain_app (q : List BA) (c : Int) : q = (drain q c).1 ++ (drain q c).2.1 := by
  induction q generalizing c with
  | nil => rfl
  | cons x q ih =>
    simp only [drain]
    split
    · simp only [List.cons_append]; rw [← ih]
    · rfl
theorem drain_credit (q : List BA) (c : Int) : (drain q c).2.2 = c - bytes (drain q c).1 := by
  induction q generalizing c with
  | nil => simp [drain, bytes]
  | cons x q ih =>
    simp only [drain]
    split
    · simp only [bytes_cons]; rw [ih]; omega
    · simp [bytes]
theorem drain_nonneg {q : List BA} {c : Int} (h : 0 ≤ c) : 0 ≤ (drain q c).2.2 := by
  induction q generalizing c with
  | nil => simpa [drain] using h
  | cons x q ih =>
    simp only [drain]
    split
    · exact ih (by omega)
    · exact h
theorem drain_head {q : List BA} {c : Int} {x : BA} {r : List BA} (h : (drain q c).2.1 = x :: r) : (drain q c).2.2 < x.size := by
  induction q generalizing c with
  | nil => simp [drain] at h
  | cons y q ih =>
    simp only [drain] at h ⊢
    split
    · next hc => rw [if_pos hc] at h; exact ih h
    · next hc => rw [if_neg hc] at h; cases h; simp at hc ⊢; omega
theorem lround_app (q : List BA) (c : Int) : q = (lround q c).1 ++ (lround q c).2.1 := by
  unfold lround
  split
  · next h => exact h
  · exact drain_app _ _
theorem lround_credit {q : List BA} {c : Int} (h0 : 0 ≤ c) (h1 : c ≤ 8192) (hq : GoodQ q) : 0 ≤ (lround q c).2.2 ∧ (lround q c).2.2 ≤ 8192 := by
  unfold lround
  split
  · exact ⟨h0, h1⟩
  · simp only
    split
    · omega
    · next hr =>
      refine ⟨drain_nonneg (by omega), ?_⟩
      obtain ⟨x, r, hx⟩ := List.exists_cons_of_ne_nil hr
      have := drain_head hx
      have hm : x ∈ q := by rw [drain_app q (c + 80), hx]; simp
      have := (hq.2 x hm).2
      omega
theorem goodQ_sub {a b : List BA} (h : GoodQ (a ++ b)) : GoodQ b := ⟨by have := h.1; simp at this; omega, fun x hx => h.2 x (List.mem_append_right _ hx)⟩
theorem lround_good {q : List BA} {c : Int} (hq : GoodQ q) : GoodQ (lround q c).2.1 := by
  refine goodQ_sub (a := (lround q c).1) ?_
  rw [← lround_app]; exact hq
theorem roundTo_q (k : Nat) (s : St) (i : Nat) : (roundTo k s).1.q i = if i < k then (lround (s.q i) (s.c i)).2.1 else s.q i := by
  induction k with
  | zero => simp [roundTo]
  | succ k ih =>
    simp only [roundTo]
    by_cases h : i = k
    · subst h; simp [upd]
    · simp only [upd, h, if_false, ih]
      by_cases h2 : i < k
      · rw [if_pos h2, if_pos (by omega)]
      · rw [if_neg h2, if_neg (by omega)]
theorem roundTo_c (k : Nat) (s : St) (i : Nat) : (roundTo k s).1.c i = if i < k then (lround (s.q i) (s.c i)).2.2 else s.c i := by
  induction k with
  | zero => simp [roundTo]
  | succ k ih =>
    simp only [roundTo]
    by_cases h : i = k
    · subst h; simp [upd]
    · simp only [upd, h, if_false, ih]
      by_cases h2 : i < k
      · rw [if_pos h2, if_pos (by omega)]
      · rw [if_neg h2, if_neg (by omega)]
theorem roundS_q (s : St) {i : Nat} (h : i < 6) : (roundS s).q i = (lround (s.q i) (s.c i)).2.1 := by rw [roundS, roundTo_q, if_pos h]
theorem roundS_c (s : St) {i : Nat} (h : i < 6) : (roundS s).c i = (lround (s.q i) (s.c i)).2.2 := by rw [roundS, roundTo_c, if_pos h]
theorem good_new : Good new0 := fun i _ => ⟨⟨by simp [new0], by simp [new0]⟩, by simp [new0]⟩
theorem good_round {s : St} (h : Good s) : Good (roundS s) := fun i hi => by
  obtain ⟨h1, h2, h3⟩ := h i hi
  rw [roundS_q s hi, roundS_c s hi]
  exact ⟨lround_good h1, lround_credit h2 h3 h1⟩
theorem good_put {s : St} (h : Good s) (lk : Int) (b : BA) : Good (putS s lk b) := by
  unfold putS
  split
  · exact h
  · next h1 =>
    split
    · exact h
    · next h2 =>
      split
      · exact h
      · next h3 =>
        intro i hi
        by_cases hk : i = lk.toNat
        · subst hk
          simp only [upd, if_true]
          obtain ⟨⟨k1, k2⟩, k3⟩ := h _ hi
          refine ⟨⟨by simp; omega, fun x hx => ?_⟩, k3⟩
          rcases List.mem_append.1 hx with hx | hx
          · exact k2 x hx
          · simp at hx; subst hx; omega
        · simp only [upd, hk, if_false]
          exact h i hi
theorem lround_len (q : List BA) (c : Int) : (lround q c).1.length ≤ q.length := by
  have := congrArg List.length (lround_app q c)
  rw [List.length_append] at this
  omega
theorem roundTo_len {s : St} (h : Good s) {k : Nat} (hk : k ≤ 6) : (roundTo k s).2.length ≤ 4 * k := by
  induction k with
  | zero => simp [roundTo]
  | succ k ih =>
    have := ih (by omega)
    have := lround_len (s.q k) (s.c k)
    have := (h k (by omega)).1.1
    simp only [roundTo, List.length_append, List.length_map]
    omega
theorem roundF_len {s : St} (h : Good s) : (roundF s).length ≤ 24 := roundTo_len h (Nat.le_refl 6)
theorem lenTo_le {s : St} (h : Good s) {k : Nat} (hk : k ≤ 6) : lenTo k s ≤ 4 * k := by
  induction k with
  | zero => simp [lenTo]
  | succ k ih =>
    have := ih (by omega)
    have := (h k (by omega)).1.1
    simp only [lenTo]
    omega
theorem roundF_to {s : St} {k : Nat} : ∀ x ∈ (roundTo k s).2, x.1 < k := by
  induction k with
  | zero => simp [roundTo]
  | succ k ih =>
    intro x hx
    simp only [roundTo, List.mem_append, List.mem_map] at hx
    rcases hx with hx | ⟨b, _, rfl⟩
    · have := ih x hx; omega
    · simp
theorem roundTo_next (k : Nat) (s : St) : (roundTo (k + 1) s).1 = ⟨upd (roundTo k s).1.q k (lround (s.q k) (s.c k)).2.1, upd (roundTo k s).1.c k (lround (s.q k) (s.c k)).2.2⟩ ∧ (roundTo (k + 1) s).2 = (roundTo k s).2 ++ (lround (s.q k) (s.c k)).1.map fun b => (k, b) := ⟨rfl, rfl⟩

/-! ### Queues in memory -/
/-- a slice of texts that the call owns, and that may have been cut at its head. -/
def Que (w : World) (base : Nat) (v : Value) (xs : List BA) : Prop :=
  (v = .slice none 0 0 ∧ xs = []) ∨ ∃ g off cap, v = .slice (some ⟨g, off, none⟩) xs.length cap ∧ base ≤ g ∧ g < w.heap.size ∧ xs.length ≤ cap ∧ cap ≤ maxLen ∧
    (∀ j u, xs[j]? = some u → w.cell? ⟨g, off + j, none⟩ = some (.string u)) ∧ (∀ j, j < cap → (w.cell? ⟨g, off + j, none⟩).isSome = true ∧ w.frozen? ⟨g, off + j, none⟩ = false)
variable {w w' : World} {base : Nat} {v : Value} {xs : List BA}
theorem que_nil (w : World) (base : Nat) : Que w base (.slice none 0 0) [] := .inl ⟨rfl, rfl⟩
theorem Que.lt (h : Que w base v xs) {g : Nat} (hg : v.ownBlock = some g) : base ≤ g ∧ g < w.heap.size := by
  rcases h with ⟨rfl, _⟩ | ⟨g', off, cap, rfl, h1, h2, _⟩
  · simp [Value.ownBlock] at hg
  · simp [Value.ownBlock] at hg; subst hg; exact ⟨h1, h2⟩
theorem Que.same (h : Que w base v xs) (hs : w.heap.size ≤ w'.heap.size) (hb : ∀ g, v.ownBlock = some g → w'.heap[g]? = w.heap[g]?) : Que w' base v xs := by
  rcases h with h | ⟨g, off, cap, rfl, h1, h2, h3, h4, h5, h6⟩
  · exact .inl h
  · have e := hb g rfl
    refine .inr ⟨g, off, cap, rfl, h1, by omega, h3, h4, fun j u hu => ?_, fun j hj => ?_⟩
    · exact (World.cell?_of_block (a := ⟨g, off + j, none⟩) e).trans (h5 j u hu)
    · rw [World.cell?_of_block (a := ⟨g, off + j, none⟩) e, World.frozen?_of_block (a := ⟨g, off + j, none⟩) e]
      exact h6 j hj
theorem Que.mod {S : Nat → Prop} (h : Que w base v xs) (hm : Mod S w w') (hs : ∀ g, v.ownBlock = some g → ¬ S g) : Que w' base v xs :=
  h.same hm.size fun g hg => hm.block g (h.lt hg).2 (hs g hg)
theorem Que.below (h : Que w base v xs) (hb : Below w.heap.size w w') : Que w' base v xs := h.same hb.size fun g hg => hb.block g (h.lt hg).2
theorem Que.mono {b' : Nat} (h : Que w base v xs) (hb : b' ≤ base) : Que w b' v xs := by
  rcases h with h | ⟨g, off, cap, h0, h1, h2⟩
  · exact .inl h
  · exact .inr ⟨g, off, cap, h0, by omega, h2⟩
/-- the form of such a slice. -/
theorem Que.form (h : Que w base v xs) : ∃ a cap, v = .slice a xs.length cap ∧ xs.length ≤ cap ∧ cap ≤ maxLen ∧ (a = none → cap = 0) ∧ ∀ j u, xs[j]? = some u → ∃ b off, a = some ⟨b, off, none⟩ ∧ base ≤ b ∧ b < w.heap.size ∧ w.cell? ⟨b, off + j, none⟩ = some (.string u) := by
  rcases h with ⟨rfl, rfl⟩ | ⟨g, off, cap, rfl, h1, h2, h3, h4, h5, _⟩
  · exact ⟨none, 0, rfl, Nat.le_refl _, Nat.zero_le _, fun _ => rfl, fun j u hu => by simp at hu⟩
  · exact ⟨_, cap, rfl, h3, h4, (fun e => by cases e), fun j u hu => ⟨g, off, rfl, h1, h2, h5 j u hu⟩⟩
/-- the first of them is there. -/
theorem Que.head {x : BA} (h : Que w base v (x :: xs)) : ∃ g off cap, v = .slice (some ⟨g, off, none⟩) (xs.length + 1) (cap + 1) ∧ g < w.heap.size ∧ xs.length ≤ cap ∧ cap + 1 ≤ maxLen ∧ w.cell? ⟨g, off, none⟩ = some (.string x) ∧
    Que w base (.slice (if cap = 0 then some ⟨g, off, none⟩ else some ⟨g, off + 1, none⟩) xs.length cap) xs := by
  rcases h with ⟨_, h⟩ | ⟨g, off, cap, rfl, h1, h2, h3, h4, h5, h6⟩
  · cases h
  · simp only [List.length_cons] at h3
    obtain ⟨cap, rfl⟩ : ∃ c, cap = c + 1 := ⟨cap - 1, by omega⟩
    refine ⟨g, off, cap, by simp, h2, by omega, h4, h5 0 x rfl, .inr ?_⟩
    by_cases hc : cap = 0
    · subst hc
      have hx0 : xs = [] := List.eq_nil_of_length_eq_zero (by omega)
      subst hx0
      exact ⟨g, off, 0, by simp, h1, h2, Nat.le_refl _, Nat.zero_le _, fun j u hu => by simp at hu, fun j hj => by omega⟩
    · rw [if_neg hc]
      refine ⟨g, off + 1, cap, rfl, h1, h2, by omega, by omega, fun j u hu => ?_, fun j hj => ?_⟩
      · have := h5 (j + 1) u (by simpa using hu)
        rwa [show off + (j + 1) = off + 1 + j by omega] at this
      · have := h6 (j + 1) (by omega)
        rwa [show off + (j + 1) = off + 1 + j by omega] at this
theorem que_of_own {n : Nat} (h : w.ownsRow base 9 1 v n (xs.map Value.string)) : Que w base v xs := by
  have hl : xs.length = n := by have := h.1; simpa using this
  subst hl
  have hk := h
  rcases h.2 with ⟨rfl, h0⟩ | ⟨g, cap, cur, rfl, h1, h2, h3, h4, h5, h6⟩
  · exact .inl ⟨rfl, List.eq_nil_of_length_eq_zero h0⟩
  · refine .inr ⟨g, 0, cap, rfl, h1, (Array.getElem?_eq_some_iff.1 h2).1, h3, h4, fun j u hu => ?_, fun j hj => ?_⟩
    · have hj : j < xs.length := (List.getElem?_eq_some_iff.1 hu).1
      have hc := World.ownsRow.cells hk (g := g) rfl j (.string u) (by simp [hu])
      rw [Go.WideShapes.add_plain] at hc
      exact hc
    · have hj2 : j < cur.size := by omega
      simp [World.cell?, World.frozen?, h2, hj2]
theorem setCells_one (w : World) (b o : Nat) (u : Value) : w.setCells b o [u] = w.setCell ⟨b, o, none⟩ u := rfl
theorem info9 : (Try.prog.info? 9).map (fun i => (i.zero, i.size, i.bytes)) = some (some (.string ⟨#[]⟩), 1, 16) := by kernel_rfl
/-- one text more. -/
theorem run_que (ty : TypeId) (h : Que w base v xs) (hb : base ≤ w.heap.size) (hl : xs.length ≤ 1000000) (ad : Addr) (c : Nat) (x : BA) (hx : w.cell? ad = some (.string x)) :
    ∃ v' w', (Builtin.append_ #[26, 26] ty #[v, .slice (some ad) 1 c]).run Try.prog w = .ok v' w' ∧ Que w' base v' (xs ++ [x]) ∧ w.grownBy w' v.ownBlock ∧ (∀ g, v'.ownBlock = some g → v.ownBlock = some g ∨ w.heap.size ≤ g) := by
  obtain ⟨i0, hi, hz0, hz1, hz2⟩ := info_parts info9
  have hn : ∀ j u, [Value.string x][j]? = some u → w.cell? (ad.add j) = some u := by
    intro j u hu
    cases j with
    | zero => simp at hu; subst hu; simpa [Addr.add] using hx
    | succ j => simp at hu
  rcases h with ⟨rfl, rfl⟩ | ⟨g, off, cap, rfl, h1, h2, h3, h4, h5, h6⟩
  · obtain ⟨v', w', hr, k1, k2, -⟩ := run_append_own (P := Try.prog) w w.heap.size 26 ty 9 i0 (.string ⟨#[]⟩) 1 16 Try.underlying26 hi hz0 hz1 hz2 rfl (by decide) (.slice none 0 0) 0 [] (World.ownsRow_nil w _ 9 1) ad 1 c [.string x] rfl hn (by simp [Value.oneCell']) (by decide) (by decide) (Nat.le_refl _)
    refine ⟨v', w', hr, (que_of_own (xs := [x]) k1).mono hb, k2, fun g hg => .inr (k1.lt g hg).1⟩
  · have hm : xs.length + 1 ≤ maxLen := by unfold maxLen; omega
    by_cases hr : xs.length + 1 ≤ cap
    · have hrun := run_append_room_cells (P := Try.prog) w 26 ty 9 i0 Try.underlying26 hi g off xs.length cap ad 1 c [.string x] (by rw [hz1]; rfl) hn (by simp [Value.oneCell']) hr
        (fun j hj => by rw [hz1]; have : j = 0 := by simpa using hj
                        subst this; simpa using (h6 xs.length (by omega)).1) (fun j hj => by rw [hz1]; have : j = 0 := by simpa using hj
                                                                                             subst this; simpa using (h6 xs.length (by omega)).2)
      rw [hz1, Nat.mul_one, setCells_one] at hrun
      refine ⟨_, _, hrun, .inr ⟨g, off, cap, by simp, h1, by simpa [World.setCell] using h2, by simpa using hr, h4, fun j u hu => ?_, fun j hjc => ⟨?_, ?_⟩⟩, ⟨rfl, rfl, rfl, by simp [World.setCell], fun k _ hk => Below.heap_setCell _ _ _ _ (fun e => hk (by rw [e]; rfl))⟩, fun g' hg => .inl hg⟩
      · by_cases hj : j < xs.length
        · rw [List.getElem?_append_left hj] at hu
          rw [World.cell?_setCell_other _ _ _ _ (by simp)]
          exact h5 j u hu
        · have hj2 : j = xs.length := by have := (List.getElem?_eq_some_iff.1 hu).1; simp at this; omega
          subst hj2
          simp at hu
          subst hu
          exact World.cell?_setCell_same' _ _ _ (h6 _ (by omega)).1
      · by_cases hj : j = xs.length
        · subst hj; rw [World.cell?_setCell_same' _ _ _ (h6 _ (by omega)).1]; rfl
        · rw [World.cell?_setCell_other _ _ _ _ (by simp)]; exact (h6 j hjc).1
      · rw [World.frozen?_setCell]; exact (h6 j hjc).2
    · obtain ⟨v', w', hrun, k1, k2⟩ := run_append_arg_grows (P := Try.prog) w 26 ty 9 i0 (.string ⟨#[]⟩) 1 16 Try.underlying26 hi hz0 hz1 hz2 rfl (by decide) ⟨g, off, none⟩ xs.length cap (xs.map Value.string) (by simp)
        (fun j u hu => by
          rw [Addr.add_lit]
          rw [List.getElem?_map] at hu
          obtain ⟨y, hy, rfl⟩ := Option.map_eq_some_iff.1 hu
          exact h5 j y hy) ad 1 c [.string x] rfl hn (by omega) hm (by omega)
      refine ⟨v', w', hrun, (que_of_own (xs := xs ++ [x]) (by simpa using k1)).mono hb, ⟨k2.os, k2.tape, k2.output, k2.size, fun k hk _ => k2.block k hk (by simp)⟩, fun g' hg => .inr (k1.lt g' hg).1⟩
end Go.Proofs.Ytkojjnkohnokoaa
