/- A scheduler and its reference, side by side. -/
import Derived.Test.YtkojjnkohnokoaaRRound
import Derived.Test.YtkojjnkohnokoaaPut
import Derived.Test.YtkojjnkohnokoaaWaits
import Derived.Test.YtkojjnkohnokoaaLen
import Derived.Test.YtkojjnkohnokoaaText
namespace Go.Proofs.Ytkojjnkohnokoaa
open Go.RowKit Go.Joins

/-- one object lies in w, made since w0; the blocks F are none of its own. -/
def One (t : TypeId) (w0 w : World) (F : Nat → Prop) (p : Nat) (s : St) : Prop :=
  ∃ vs, Below w0.heap.size w0 w ∧ Sch w w0.heap.size p t vs s ∧ ∀ k, F k → ¬ Foot p vs k ∧ k < w.heap.size
/-- both lie in w, made since w0; the blocks F are none of theirs. -/
def BE (w0 w : World) (F : Nat → Prop) (p q : Nat) (s r : St) : Prop :=
  ∃ vs vr, Below w0.heap.size w0 w ∧ Sch w w0.heap.size p 56 vs s ∧ Sch w w0.heap.size q 31 vr r ∧ (∀ k, Foot p vs k → ¬ Foot q vr k) ∧ ∀ k, F k → ¬ Foot p vs k ∧ ¬ Foot q vr k ∧ k < w.heap.size
theorem swap3 {a b c : Prop} (h : (a ∨ b) ∨ c) : (a ∨ c) ∨ b := h.elim (fun x => x.elim (fun y => .inl (.inl y)) .inr) (fun x => .inl (.inr x))
section
variable {t : TypeId} {w0 w w' : World} {F F' : Nat → Prop} {p q : Nat} {s r s' r' : St}
theorem One.bel (h : One t w0 w F p s) : Below w0.heap.size w0 w := by obtain ⟨_, h, _⟩ := h; exact h
theorem One.less (h : One t w0 w F p s) (hF : ∀ k, F' k → F k) : One t w0 w F' p s := by
  obtain ⟨vs, h1, h2, h3⟩ := h
  exact ⟨vs, h1, h2, fun k hk => h3 k (hF k hk)⟩
theorem One.below (h : One t w0 w F p s) (hb : Below w.heap.size w w') : One t w0 w' F p s := by
  obtain ⟨vs, h1, h2, h3⟩ := h
  exact ⟨vs, grew_trans h1 hb, h2.below hb, fun k hk => ⟨(h3 k hk).1, Nat.lt_of_lt_of_le (h3 k hk).2 hb.size⟩⟩
theorem One.more (h : One t w0 w F p s) (hb : Below w.heap.size w w') : One t w0 w' (fun k => F k ∨ (w.heap.size ≤ k ∧ k < w'.heap.size)) p s := by
  obtain ⟨vs, h1, h2, h3⟩ := h
  refine ⟨vs, grew_trans h1 hb, h2.below hb, fun k hk => ?_⟩
  rcases hk with hk | hk
  · exact ⟨(h3 k hk).1, Nat.lt_of_lt_of_le (h3 k hk).2 hb.size⟩
  · exact ⟨fun c => by have := (h2.lt k c).2; omega, hk.2⟩
theorem One.mod {S : Nat → Prop} (h : One t w0 w F p s) (hm : Mod S w w') (hS : ∀ k, S k → F k) (hn : ∀ k, S k → w0.heap.size ≤ k) : One t w0 w' F p s := by
  obtain ⟨vs, h1, h2, h3⟩ := h
  exact ⟨vs, h1.trans (hm.below h1.size hn), h2.mod hm (fun k hk hs => (h3 k (hS k hs)).1 hk), fun k hk => ⟨(h3 k hk).1, Nat.lt_of_lt_of_le (h3 k hk).2 hm.size⟩⟩
/-- behind a method of it. -/
theorem One.upd {vs : Nat → Value} (h1 : Below w0.heap.size w0 w) (h2 : Sch w w0.heap.size p t vs s) (h3 : ∀ k, F k → ¬ Foot p vs k ∧ k < w.heap.size) (hU : Upd w0.heap.size p t vs s' w w') :
    One t w0 w' F p s' ∧ Mod (fun k => ¬ F k ∧ w0.heap.size ≤ k) w w' := by
  obtain ⟨vs', k1, k2, k3⟩ := hU
  refine ⟨⟨vs', h1.trans (k2.below h1.size (fun k hk => (h2.lt k hk).1)), k1, fun k hk => ⟨fun c => ?_, Nat.lt_of_lt_of_le (h3 k hk).2 k2.size⟩⟩, k2.mono fun k _ hk => ⟨fun c => (h3 k c).1 hk, (h2.lt k hk).1⟩⟩
  rcases k3 k c with e | e
  · exact (h3 k hk).1 e
  · have := (h3 k hk).2; omega
theorem Stand.upd {base : Nat} {vs : Nat → Value} (h : Stand (fun _ => False) base p t vs w s' w') : Upd base p t vs s' w w' := by
  obtain ⟨vs', h1, h2, h3⟩ := h
  exact ⟨vs', h1, h2.mono (fun k _ hk => hk.resolve_right id), fun k hk => .inl (h3 k hk)⟩
/-- behind a round: the frames are none of its own. -/
theorem One.stand {vs : Nat → Value} {v : Value} {l : List Fr} (h1 : Below w0.heap.size w0 w) (h2 : Sch w w0.heap.size p t vs s) (h3 : ∀ k, F k → ¬ Foot p vs k ∧ k < w.heap.size) (hU : Stand (fun _ => False) w0.heap.size p t vs w s' w') (hown : OwnL encF 3 46 w' w.heap.size v l) :
    One t w0 w' (fun k => F k ∨ v.ownBlock = some k) p s' ∧ Mod (fun k => ¬ F k ∧ w0.heap.size ≤ k) w w' := by
  obtain ⟨vs', k1, k2, k3⟩ := hU
  have k2' : Mod (Foot p vs) w w' := k2.mono (fun k _ hk => hk.resolve_right id)
  refine ⟨⟨vs', h1.trans (k2'.below h1.size (fun k hk => (h2.lt k hk).1)), k1, fun k hk => ?_⟩, k2'.mono fun k _ hk => ⟨fun c => (h3 k c).1 hk, (h2.lt k hk).1⟩⟩
  rcases hk with hk | hk
  · exact ⟨fun c => (h3 k hk).1 (k3 k c), Nat.lt_of_lt_of_le (h3 k hk).2 k2.size⟩
  · have := World.ownsRow.lt hown k hk
    exact ⟨fun c => by have := (h2.lt k (k3 k c)).2; omega, this.2⟩

/-! the methods, of one -/
def OneP (v : Value) (t : TypeId) (w0 w : World) (F : Nat → Prop) (p : Nat) (s : St) (e : Ending) (w' : World) : Prop := e = .returned v ∧ One t w0 w' F p s ∧ Mod (fun k => ¬ F k ∧ w0.heap.size ≤ k) w w'
def OneR (l : List Fr) (t : TypeId) (w0 w : World) (F : Nat → Prop) (p : Nat) (s : St) (e : Ending) (w' : World) : Prop :=
  ∃ v, e = .returned v ∧ OwnL encF 3 46 w' w.heap.size v l ∧ One t w0 w' (fun k => F k ∨ v.ownBlock = some k) p s ∧ Mod (fun k => ¬ F k ∧ w0.heap.size ≤ k) w w'
theorem o_new (w : World) : Calls Try.prog 7 #[] w fun e w' => ∃ p, e = .returned (.pointer (some ⟨p, 0, none⟩)) ∧ One 56 w w' (fun _ => False) p new0 ∧ Below w.heap.size w w' :=
  (new_any w).mono fun _ _ ⟨he, h1, h2⟩ => ⟨_, he, ⟨_, h2, h1, fun _ hk => hk.elim⟩, h2⟩
theorem o_put {lk : Int} {b : BA} (h : One 56 w0 w F p s) : Calls Try.prog 11 #[.pointer (some ⟨p, 0, none⟩), .int .i64 lk, .string b] w (OneP (.int .i64 (putE s lk b)) 56 w0 w F p (putS s lk b)) := by
  obtain ⟨vs, h1, h2, h3⟩ := h
  exact (put_any _ p vs s lk b w h2 h1.size).mono fun e w' ⟨he, hU⟩ => ⟨he, One.upd h1 h2 h3 hU⟩
theorem o_rput {lk : Int} {b : BA} (h : One 31 w0 w F p s) : Calls Try.prog 13 #[.pointer (some ⟨p, 0, none⟩), .int .i64 lk, .string b] w (OneP (.int .i64 (putE s lk b)) 31 w0 w F p (putS s lk b)) := by
  obtain ⟨vs, h1, h2, h3⟩ := h
  exact (rput_any _ p vs s lk b w h2 h1.size).mono fun e w' ⟨he, hU⟩ => ⟨he, One.upd h1 h2 h3 hU⟩
theorem o_round (h : One 56 w0 w F p s) (hg : Good s) : Calls Try.prog 9 #[.pointer (some ⟨p, 0, none⟩)] w (OneR (roundF s) 56 w0 w F p (roundS s)) := by
  obtain ⟨vs, h1, h2, h3⟩ := h
  exact (round_any _ p vs s w h2 hg).mono fun e w' ⟨v, he, ho, hU⟩ => ⟨v, he, ho, One.stand h1 h2 h3 hU ho⟩
theorem o_rround (h : One 31 w0 w F p s) (hg : Good s) : Calls Try.prog 10 #[.pointer (some ⟨p, 0, none⟩)] w (OneR (roundF s) 31 w0 w F p (roundS s)) := by
  obtain ⟨vs, h1, h2, h3⟩ := h
  exact (rround_any _ p vs s w h2 hg).mono fun e w' ⟨v, he, ho, hU⟩ => ⟨v, he, ho, One.stand h1 h2 h3 hU ho⟩
theorem o_len (h : One 56 w0 w F p s) (hg : Good s) : Calls Try.prog 14 #[.pointer (some ⟨p, 0, none⟩)] w (RetI (lenS s : Int) w) := by
  obtain ⟨vs, h1, h2, h3⟩ := h
  exact len_any _ p vs s w h2 hg
theorem o_rlen (h : One 31 w0 w F p s) (hg : Good s) : Calls Try.prog 15 #[.pointer (some ⟨p, 0, none⟩)] w (SameI (lenS s : Int) w) := by
  obtain ⟨vs, h1, h2, h3⟩ := h
  exact rlen_any _ p vs s w h2 hg
theorem o_waits {lk : Int} (h : One 56 w0 w F p s) (hg : Good s) : Calls Try.prog 16 #[.pointer (some ⟨p, 0, none⟩), .int .i64 lk] w (SameI (waitsS s lk) w) := by
  obtain ⟨vs, h1, h2, h3⟩ := h
  exact waits_any _ p vs s lk w h2 hg
theorem o_rwaits {lk : Int} (h : One 31 w0 w F p s) (hg : Good s) : Calls Try.prog 17 #[.pointer (some ⟨p, 0, none⟩), .int .i64 lk] w (SameI (waitsS s lk) w) := by
  obtain ⟨vs, h1, h2, h3⟩ := h
  exact rwaits_any _ p vs s lk w h2 hg

/-! both -/
theorem BE.bel (h : BE w0 w F p q s r) : Below w0.heap.size w0 w := by obtain ⟨_, _, h, _⟩ := h; exact h
theorem BE.below (h : BE w0 w F p q s r) (hb : Below w.heap.size w w') : BE w0 w' F p q s r := by
  obtain ⟨vs, vr, h1, h2, h3, h4, h5⟩ := h
  exact ⟨vs, vr, grew_trans h1 hb, h2.below hb, h3.below hb, h4, fun k hk => ⟨(h5 k hk).1, (h5 k hk).2.1, Nat.lt_of_lt_of_le (h5 k hk).2.2 hb.size⟩⟩
theorem BE.less (h : BE w0 w F p q s r) (hF : ∀ k, F' k → F k) : BE w0 w F' p q s r := by
  obtain ⟨vs, vr, h1, h2, h3, h4, h5⟩ := h
  exact ⟨vs, vr, h1, h2, h3, h4, fun k hk => h5 k (hF k hk)⟩
theorem BE.new (h1 : Sch w w0.heap.size p 56 (fun _ => .slice none 0 0) new0) (h2 : Sch w w0.heap.size q 31 (fun _ => .slice none 0 0) new0) (hb : Below w0.heap.size w0 w) (hpq : p ≠ q) : BE w0 w (fun _ => False) p q new0 new0 :=
  ⟨_, _, hb, h1, h2, fun k hk hk2 => by
    rcases hk with rfl | ⟨_, _, hk⟩
    · rcases hk2 with rfl | ⟨_, _, hk2⟩
      · exact hpq rfl
      · simp [Value.ownBlock] at hk2
    · simp [Value.ownBlock] at hk, fun _ hk => hk.elim⟩
/-- the one, and the other one as it stays. -/
theorem BE.left (h : BE w0 w F p q s r) : ∃ vr, One 56 w0 w (fun k => F k ∨ Foot q vr k) p s ∧ Sch w w0.heap.size q 31 vr r ∧ ∀ k, F k → ¬ Foot q vr k := by
  obtain ⟨vs, vr, h1, h2, h3, h4, h5⟩ := h
  refine ⟨vr, ⟨vs, h1, h2, fun k hk => ?_⟩, h3, fun k hk => (h5 k hk).2.1⟩
  rcases hk with hk | hk
  · exact ⟨(h5 k hk).1, (h5 k hk).2.2⟩
  · exact ⟨fun c => h4 k c hk, (h3.lt k hk).2⟩
theorem BE.right (h : BE w0 w F p q s r) : ∃ vs, One 31 w0 w (fun k => F k ∨ Foot p vs k) q r ∧ Sch w w0.heap.size p 56 vs s ∧ ∀ k, F k → ¬ Foot p vs k := by
  obtain ⟨vs, vr, h1, h2, h3, h4, h5⟩ := h
  refine ⟨vs, ⟨vr, h1, h3, fun k hk => ?_⟩, h2, fun k hk => (h5 k hk).1⟩
  rcases hk with hk | hk
  · exact ⟨(h5 k hk).2.1, (h5 k hk).2.2⟩
  · exact ⟨fun c => h4 k hk c, (h2.lt k hk).2⟩
theorem BE.ofLeft {vr : Nat → Value} {w1 : World} (h : One 56 w0 w' (fun k => F' k ∨ Foot q vr k) p s') (hr : Sch w1 w0.heap.size q 31 vr r) (hm : Mod (fun k => ¬ (F k ∨ Foot q vr k) ∧ w0.heap.size ≤ k) w1 w') (hF : ∀ k, F' k → ¬ Foot q vr k) : BE w0 w' F' p q s' r := by
  obtain ⟨vs, h1, h2, h3⟩ := h
  exact ⟨vs, vr, h1, h2, hr.mod hm (fun k hk c => c.1 (.inr hk)), fun k hk c => (h3 k (.inr c)).1 hk, fun k hk => ⟨(h3 k (.inl hk)).1, hF k hk, (h3 k (.inl hk)).2⟩⟩
theorem BE.ofRight {vs : Nat → Value} {w1 : World} (h : One 31 w0 w' (fun k => F' k ∨ Foot p vs k) q r') (hs : Sch w1 w0.heap.size p 56 vs s) (hm : Mod (fun k => ¬ (F k ∨ Foot p vs k) ∧ w0.heap.size ≤ k) w1 w') (hF : ∀ k, F' k → ¬ Foot p vs k) : BE w0 w' F' p q s r' := by
  obtain ⟨vr, h1, h2, h3⟩ := h
  exact ⟨vs, vr, h1, hs.mod hm (fun k hk c => c.1 (.inr hk)), h2, fun k hk c => (h3 k (.inr hk)).1 c, fun k hk => ⟨hF k hk, (h3 k (.inl hk)).1, (h3 k (.inl hk)).2⟩⟩
def BP (v : Value) (w0 w : World) (F : Nat → Prop) (p q : Nat) (s r : St) (e : Ending) (w' : World) : Prop := e = .returned v ∧ BE w0 w' F p q s r ∧ Mod (fun k => ¬ F k ∧ w0.heap.size ≤ k) w w'
def BR (l : List Fr) (w0 w : World) (F : Nat → Prop) (p q : Nat) (s r : St) (e : Ending) (w' : World) : Prop :=
  ∃ v, e = .returned v ∧ OwnL encF 3 46 w' w.heap.size v l ∧ BE w0 w' (fun k => F k ∨ v.ownBlock = some k) p q s r ∧ Mod (fun k => ¬ F k ∧ w0.heap.size ≤ k) w w'
theorem b_put {lk : Int} {b : BA} (h : BE w0 w F p q s r) : Calls Try.prog 11 #[.pointer (some ⟨p, 0, none⟩), .int .i64 lk, .string b] w (BP (.int .i64 (putE s lk b)) w0 w F p q (putS s lk b) r) := by
  obtain ⟨vr, h1, h2, h3⟩ := h.left
  exact (o_put h1).mono fun e w' ⟨he, hO, hM⟩ => ⟨he, BE.ofLeft hO h2 hM h3, hM.mono fun k _ hk => ⟨fun c => hk.1 (.inl c), hk.2⟩⟩
theorem b_rput {lk : Int} {b : BA} (h : BE w0 w F p q s r) : Calls Try.prog 13 #[.pointer (some ⟨q, 0, none⟩), .int .i64 lk, .string b] w (BP (.int .i64 (putE r lk b)) w0 w F p q s (putS r lk b)) := by
  obtain ⟨vs, h1, h2, h3⟩ := h.right
  exact (o_rput h1).mono fun e w' ⟨he, hO, hM⟩ => ⟨he, BE.ofRight hO h2 hM h3, hM.mono fun k _ hk => ⟨fun c => hk.1 (.inl c), hk.2⟩⟩
theorem b_round (h : BE w0 w F p q s r) (hg : Good s) : Calls Try.prog 9 #[.pointer (some ⟨p, 0, none⟩)] w (BR (roundF s) w0 w F p q (roundS s) r) := by
  obtain ⟨vr, h1, h2, h3⟩ := h.left
  exact (o_round h1 hg).mono fun e w' ⟨v, he, ho, hO, hM⟩ => ⟨v, he, ho, BE.ofLeft (F := F) (F' := fun k => F k ∨ v.ownBlock = some k) (hO.less fun k hk => swap3 hk) h2 hM (fun k hk => by
    rcases hk with hk | hk
    · exact h3 k hk
    · exact fun c => by have := (World.ownsRow.lt ho k hk).1; have := (h2.lt k c).2; omega), hM.mono fun k _ hk => ⟨fun c => hk.1 (.inl c), hk.2⟩⟩
theorem b_rround (h : BE w0 w F p q s r) (hg : Good r) : Calls Try.prog 10 #[.pointer (some ⟨q, 0, none⟩)] w (BR (roundF r) w0 w F p q s (roundS r)) := by
  obtain ⟨vs, h1, h2, h3⟩ := h.right
  exact (o_rround h1 hg).mono fun e w' ⟨v, he, ho, hO, hM⟩ => ⟨v, he, ho, BE.ofRight (F := F) (F' := fun k => F k ∨ v.ownBlock = some k) (hO.less fun k hk => swap3 hk) h2 hM (fun k hk => by
    rcases hk with hk | hk
    · exact h3 k hk
    · exact fun c => by have := (World.ownsRow.lt ho k hk).1; have := (h2.lt k c).2; omega), hM.mono fun k _ hk => ⟨fun c => hk.1 (.inl c), hk.2⟩⟩
theorem b_len (h : BE w0 w F p q s r) (hg : Good s) : Calls Try.prog 14 #[.pointer (some ⟨p, 0, none⟩)] w (RetI (lenS s : Int) w) := by
  obtain ⟨vr, h1, _⟩ := h.left; exact o_len h1 hg
theorem b_rlen (h : BE w0 w F p q s r) (hg : Good r) : Calls Try.prog 15 #[.pointer (some ⟨q, 0, none⟩)] w (SameI (lenS r : Int) w) := by
  obtain ⟨vr, h1, _⟩ := h.right; exact o_rlen h1 hg
theorem b_waits {lk : Int} (h : BE w0 w F p q s r) (hg : Good s) : Calls Try.prog 16 #[.pointer (some ⟨p, 0, none⟩), .int .i64 lk] w (SameI (waitsS s lk) w) := by
  obtain ⟨vr, h1, _⟩ := h.left; exact o_waits h1 hg
theorem b_rwaits {lk : Int} (h : BE w0 w F p q s r) (hg : Good r) : Calls Try.prog 17 #[.pointer (some ⟨q, 0, none⟩), .int .i64 lk] w (SameI (waitsS r lk) w) := by
  obtain ⟨vr, h1, _⟩ := h.right; exact o_rwaits h1 hg
end
end Go.Proofs.Ytkojjnkohnokoaa
