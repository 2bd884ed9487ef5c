/- Plain: from whom a node pulls: what the program and the document's answer both reckon. -/
namespace Go.Proofs.Ytbmnaimbognohaa

/-- a node's row. -/
def rowL : Nat → List Int
  | 0 => [1, 2]
  | 1 => [0, 2]
  | 2 => [0, 1]
  | 3 => [2, 1, 0]
  | 4 => [3, 2, 1, 0]
  | 5 => [4, 3, 2, 1, 0]
  | _ => []

structure T where
  me : Nat
  place : Nat
  time : Int

def T.ok (t : T) : Prop := t.me < 6 ∧ t.place < (rowL t.me).length ∧ -9223372036854775808 ≤ t.time ∧ t.time ≤ 9223372036854775807

def T.turns (t : T) (head : Int) (behind : Bool) : Bool := decide (3 ≤ t.me) || (decide (head = t.me) && behind)
def T.at (t : T) : Int := (rowL t.me).getD t.place 0
def T.above (t : T) (head : Int) (behind : Bool) : Int :=
  if t.turns head behind then t.at else if 0 ≤ head ∧ head < 3 ∧ head ≠ t.me then head else -1
def T.hear (t : T) (src clock : Int) : T := if t.at = src then { t with time := clock } else t
def T.tick (t : T) (head : Int) (behind : Bool) (clock : Int) : T :=
  if t.turns head behind then
    if t.time ≤ clock ∧ 15 ≤ clock - t.time then ⟨t.me, (t.place + 1) % (rowL t.me).length, clock⟩ else t
  else { t with time := clock }

theorem rowL_pos (me : Nat) (h : me < 6) : 2 ≤ (rowL me).length ∧ (rowL me).length ≤ 5 := by
  match me, h with
  | 0, _ => decide
  | 1, _ => decide
  | 2, _ => decide
  | 3, _ => decide
  | 4, _ => decide
  | 5, _ => decide

theorem T.hear_ok {t : T} (h : t.ok) (src clock : Int) (hc : -9223372036854775808 ≤ clock ∧ clock ≤ 9223372036854775807) : (t.hear src clock).ok := by
  unfold T.hear; split
  · exact ⟨h.1, h.2.1, hc.1, hc.2⟩
  · exact h
theorem T.tick_ok {t : T} (h : t.ok) (head : Int) (behind : Bool) (clock : Int) (hc : -9223372036854775808 ≤ clock ∧ clock ≤ 9223372036854775807) : (t.tick head behind clock).ok := by
  have := rowL_pos t.me h.1
  unfold T.tick; split
  · split
    · exact ⟨h.1, Nat.mod_lt _ (by omega), hc.1, hc.2⟩
    · exact h
  · exact ⟨h.1, h.2.1, hc.1, hc.2⟩
theorem T.hear_me (t : T) (src clock : Int) : (t.hear src clock).me = t.me := by unfold T.hear; split <;> rfl
theorem T.tick_me (t : T) (head : Int) (behind : Bool) (clock : Int) : (t.tick head behind clock).me = t.me := by
  unfold T.tick; split
  · split <;> rfl
  · rfl

theorem at_in (me place : Nat) (h : me < 6) (hp : place < (rowL me).length) :
    (3 ≤ me → 0 ≤ (rowL me).getD place 0 ∧ (rowL me).getD place 0 < me) ∧ (me < 3 → 0 ≤ (rowL me).getD place 0 ∧ (rowL me).getD place 0 < 3 ∧ (rowL me).getD place 0 ≠ me) := by
  have key : ∀ me, me < 6 → ∀ place, place < (rowL me).length → (3 ≤ me → 0 ≤ (rowL me).getD place 0 ∧ (rowL me).getD place 0 < me) ∧ (me < 3 → 0 ≤ (rowL me).getD place 0 ∧ (rowL me).getD place 0 < 3 ∧ (rowL me).getD place 0 ≠ me) := by decide
  exact key me h place hp
theorem T.above_yes {t : T} {head : Int} {behind : Bool} (h : t.turns head behind = true) : t.above head behind = t.at := by unfold T.above; rw [if_pos h]
theorem T.above_head {t : T} {head : Int} {behind : Bool} (h : t.turns head behind = false) (h0 : 0 ≤ head) (h3 : head < 3) (hm : ¬ head = t.me) : t.above head behind = head := by
  unfold T.above; rw [if_neg (by simp [h]), if_pos ⟨h0, h3, hm⟩]
theorem T.above_none {t : T} {head : Int} {behind : Bool} (h : t.turns head behind = false) (hn : head < 0 ∨ 3 ≤ head ∨ head = t.me) : t.above head behind = -1 := by
  unfold T.above; rw [if_neg (by simp [h]), if_neg (by rintro ⟨a, b, c⟩; omega)]
theorem T.turns_high {t : T} (h : 3 ≤ t.me) (head : Int) (behind : Bool) : t.turns head behind = true := by simp [T.turns, h]
theorem T.turns_me {t : T} {head : Int} (h : ¬ 3 ≤ t.me) (hm : head = t.me) (behind : Bool) : t.turns head behind = behind := by simp [T.turns, h, hm]
theorem T.turns_other {t : T} {head : Int} (h : ¬ 3 ≤ t.me) (hm : ¬ head = t.me) (behind : Bool) : t.turns head behind = false := by simp [T.turns, h, hm]
end Go.Proofs.Ytbmnaimbognohaa
