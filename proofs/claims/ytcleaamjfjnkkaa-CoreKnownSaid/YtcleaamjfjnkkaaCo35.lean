/- Answers of an elder term, in plain words. -/
import Derived.Test.YtcleaamjfjnkkaaCo34
namespace Go.Proofs.Ytcleaamjfjnkkaa
open Go.RowKit Go.Joins
def est : Nat → Co
  | 0 => wo0
  | i + 1 => (est i).tick (46 * (i : Int) + 30 + 16) 0
def vA (n : Nat) (y : Bool) : Mg := { mg0 2 with term := (n : Int), yes := y }
def kS0 (n : Nat) : Co := (est n).begin (46 * (n : Int))
def kA (n : Nat) : Co := (kS0 n).handle 2 (vA n false) (46 * (n : Int)) 0
def kB (n : Nat) : Co := (kA n).handle 1 (vA n true) (46 * (n : Int)) 0
def kC (n : Nat) : Co := (kB n).handle 2 (vA n true) (46 * (n : Int)) 0
theorem est_out : ∀ i, i < 8 → (est (i + 1)).out.length = 2 := by decide +kernel
theorem est_fin : ∀ i, i < 8 → (est (i + 1)).term = ((i + 1 : Nat) : Int) ∧ (est (i + 1)).now = 46 * ((i + 1 : Nat) : Int) ∧ (est (i + 1)).me = 0 ∧ (kA (i + 1)).role = 1 ∧ (kB (i + 1)).out.length = 2 ∧ (kC (i + 1)).out.length = 0 ∧ (kC (i + 1)).role = 2 ∧ (kC (i + 1)).log.length = 1 ∧ (kC (i + 1)).term = ((i + 1 : Nat) : Int) ∧ (kC (i + 1)).me = 0 ∧ (kC (i + 1)).now = 46 * ((i + 1 : Nat) : Int) := by decide +kernel
theorem est_ok : ∀ i, i ≤ 8 → Ok (est i)
  | 0, _ => wo0_ok
  | i + 1, h => (Goo.tick (est_ok i (by omega)) (i64s (by omega)) 0).ok
theorem vA_ok (n : Nat) (hn : n ≤ 8) (y : Bool) : MOk (vA n y) := mok_small rfl (by show (0 : Int) ≤ (n : Int) ∧ (n : Int) ≤ 10000; omega) (by show (-1000 : Int) ≤ 0 ∧ (0 : Int) ≤ 10000; omega) (by show (-1000 : Int) ≤ 0 ∧ (0 : Int) ≤ 10000; omega) (by show (-1000 : Int) ≤ 0 ∧ (0 : Int) ≤ 10000; omega) (by show (-1000 : Int) ≤ 0 ∧ (0 : Int) ≤ 10000; omega)
theorem elder_same (c : Co) {f : Int} {m : Mg} {clk : Int} (hme : c.me = 0) (hf : f = 1 ∨ f = 2) (hk : m.kind = 2 ∨ m.kind = 4) (ht : m.term < c.term) : c.handle f m clk 0 = c.begin clk := by
  have hfo : (c.begin clk).follow m.term = c.begin clk := by unfold Co.follow; rw [if_neg (by show ¬ c.term < m.term; omega)]
  unfold Co.handle
  simp only
  rw [if_neg (by rintro (e | e | e); omega; omega; (have : f = c.me := e; omega)), if_neg (by omega)]
  rcases hk with hk | hk
  · rw [if_pos hk]
    unfold Co.vote
    simp only
    rw [hfo, if_neg (by rintro ⟨-, e, -⟩; have : m.term = c.term := e; omega)]
  · rw [if_neg (by omega), if_neg (by omega), if_pos hk]
    unfold Co.answered
    simp only
    rw [hfo, if_pos (Or.inr (by show m.term ≠ c.term; omega))]
theorem handle_begin (c : Co) (f : Int) (m : Mg) (clk d : Int) : (c.begin clk).handle f m clk d = c.handle f m clk d := rfl
/-- a voter that is S but for what it sent last. -/
structure Alike (clk : Int) (S c : Co) : Prop where
  eq : c.begin clk = S
  now : c.now = clk
  ok : Ok c
theorem Alike.f {clk : Int} {S c : Co} (h : Alike clk S c) : c.role = S.role ∧ c.commit = S.commit ∧ c.term = S.term ∧ c.me = S.me ∧ c.until_ = S.until_ ∧ c.log = S.log := by
  obtain ⟨h1, h2, h3⟩ := h
  subst h1
  refine ⟨rfl, rfl, rfl, rfl, ?_, rfl⟩
  unfold Co.until_ Co.stamps Co.begin
  simp only [h2]
theorem Alike.self {clk : Int} {S c : Co} (h : Alike clk S c) : Alike clk S S := by
  have hb := ok_begin h.ok (clock := clk) (by have := h.ok.now; rw [h.now] at this; exact this)
  have h1 := h.eq
  subst h1
  exact ⟨rfl, rfl, hb⟩
theorem Alike.elder {clk : Int} {S c : Co} (h : Alike clk S c) (hme : S.me = 0) {f : Int} {m : Mg} (hf : f = 1 ∨ f = 2) (hk : m.kind = 2 ∨ m.kind = 4) (ht : m.term < S.term) : c.handle f m clk 0 = S := by
  rw [elder_same c (h.f.2.2.2.1.trans hme) hf hk (by rw [h.f.2.2.1]; exact ht)]
  exact h.eq
def stE (n : Nat) (t : Nat) : Co := if t = 0 then kS0 n else (kC n).begin (46 * (n : Int))
end Go.Proofs.Ytcleaamjfjnkkaa
