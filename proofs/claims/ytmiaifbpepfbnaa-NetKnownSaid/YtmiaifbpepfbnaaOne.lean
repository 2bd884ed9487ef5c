/- A net alone. -/
import Derived.Test.YtmiaifbpepfbnaaFrames
namespace Go.Proofs.Ytmiaifbpepfbnaa
open Go.RowKit Go.Joins Go.ChangeMaps

/-- a net in w, made since w0; the blocks F are none of its. -/
def NE (w0 w : World) (F : Nat → Prop) (p bm : Nat) (s : St) : Prop :=
  ∃ v, Below w0.heap.size w0 w ∧ PN w w0.heap.size p bm v s ∧ ∀ k, F k → ¬ PF p bm v k ∧ k < w.heap.size
variable {w0 w w' : World} {F F' : Nat → Prop} {p bm : Nat} {s s' : St}
theorem NE.bel (h : NE w0 w F p bm s) : Below w0.heap.size w0 w := by obtain ⟨_, h, _⟩ := h; exact h
theorem NE.below (h : NE w0 w F p bm s) (hb : Below w.heap.size w w') : NE w0 w' F p bm s := by
  obtain ⟨v, h1, h2, h5⟩ := h
  exact ⟨v, grew_trans h1 hb, h2.below hb, fun k hk => ⟨(h5 k hk).1, Nat.lt_of_lt_of_le (h5 k hk).2 hb.size⟩⟩
theorem NE.less (h : NE w0 w F p bm s) (hF : ∀ k, F' k → F k) : NE w0 w F' p bm s := by
  obtain ⟨v, h1, h2, h5⟩ := h
  exact ⟨v, h1, h2, fun k hk => h5 k (hF k hk)⟩
theorem NE.more (h : NE w0 w F p bm s) (hb : Below w.heap.size w w') : NE w0 w' (fun k => F k ∨ (w.heap.size ≤ k ∧ k < w'.heap.size)) p bm s := by
  obtain ⟨v, h1, h2, h5⟩ := h
  refine ⟨v, grew_trans h1 hb, h2.below hb, fun k hk => ?_⟩
  rcases hk with hk | hk
  · exact ⟨(h5 k hk).1, Nat.lt_of_lt_of_le (h5 k hk).2 hb.size⟩
  · exact ⟨fun c => by have := (h2.lt k c).2; omega, hk.2⟩
theorem NE.mod {S : Nat → Prop} (h : NE w0 w F p bm s) (hm : Mod S w w') (hS : ∀ k, k < w.heap.size → S k → F k) (hn : ∀ k, S k → w0.heap.size ≤ k) : NE w0 w' F p bm s := by
  obtain ⟨v, h1, h2, h5⟩ := h
  have hm' : Mod (fun k => S k ∧ k < w.heap.size) w w' := ⟨hm.os, hm.tape, hm.output, hm.size, fun k hk hs => hm.block k hk (fun c => hs ⟨c, hk⟩)⟩
  exact ⟨v, h1.trans (hm.below h1.size hn), h2.mod hm' (fun k hk hs => (h5 k (hS k hs.2 hs.1)).1 hk), fun k hk => ⟨(h5 k hk).1, Nat.lt_of_lt_of_le (h5 k hk).2 hm.size⟩⟩
def Stp (w0 w : World) (F : Nat → Prop) (p bm : Nat) (s : St) (w' : World) : Prop := NE w0 w' F p bm s ∧ (∀ k o, F k → w.heap[k]? = some o → w'.heap[k]? = some o) ∧ Mod (fun k => ¬ F k ∧ w0.heap.size ≤ k) w w'
theorem NE.step {v : Value} (h1 : Below w0.heap.size w0 w) (h2 : PN w w0.heap.size p bm v s) (h5 : ∀ k, F k → ¬ PF p bm v k ∧ k < w.heap.size) (hU : PUpd w0.heap.size p bm v s' w w') : Stp w0 w F p bm s' w' := by
  obtain ⟨v', k1, k2, k3⟩ := hU
  refine ⟨⟨v', h1.trans (k2.below h1.size (fun k hk => (h2.lt k hk).1)), k1, fun k hk => ⟨fun c => ?_, Nat.lt_of_lt_of_le (h5 k hk).2 k2.size⟩⟩, fun k o hk ho => k2.heap ho (h5 k hk).1, k2.mono fun k _ hk => ⟨fun c => (h5 k c).1 hk, (h2.lt k hk).1⟩⟩
  rcases c with rfl | rfl | c
  · exact (h5 _ hk).1 (.inl rfl)
  · exact (h5 _ hk).1 (.inr (.inl rfl))
  · rcases k3 k c with hc | hc
    · exact (h5 k hk).1 (.inr (.inr hc))
    · have := (h5 k hk).2; omega
theorem n_new (n : Int) (h1 : 1 ≤ n) (h6 : n ≤ 6) : Calls Try.prog 8 #[.int .i64 n] w0 (fun e w' => e = .returned (.pointer (some ⟨w0.heap.size + 1, 0, none⟩)) ∧ NE w0 w' (fun _ => False) (w0.heap.size + 1) w0.heap.size (newS n)) :=
  (new_any n w0 h1 h6).mono fun _ _ ⟨he, h, hb⟩ => ⟨he, _, hb, h, fun _ c => c.elim⟩
theorem n_send {a : Option Addr} {c n : Nat} {l : List Fr} (h : NE w0 w F p bm s) (hg : Good s) (hl : Sli encF 3 w a c l) (hn : l.length = n) (hbd : s.fr + n ≤ 1000000000) (hF : ∀ b off, a = some ⟨b, off, none⟩ → F b) :
    Calls Try.prog 9 #[.pointer (some ⟨p, 0, none⟩), .slice a n c] w (Tup0 (Stp w0 w F p bm (sendS s l))) := by
  obtain ⟨v, h1, h2, h5⟩ := h
  subst hn
  exact (send_any _ p bm c v s a l w h2 hg hl h1.size hbd (fun b off e => (h5 b (hF b off e)).1)).mono fun e w' ⟨he, hU⟩ => ⟨he, NE.step h1 h2 h5 hU⟩
theorem n_twice {k : Int} (h : NE w0 w F p bm s) : Calls Try.prog 11 #[.pointer (some ⟨p, 0, none⟩), .int .i64 k] w (RB (twiceS s k).2 (Stp w0 w F p bm (twiceS s k).1)) := by
  obtain ⟨v, h1, h2, h5⟩ := h
  exact (twice_any _ p bm v s k w h2 h1.size).mono fun e w' ⟨he, hU⟩ => ⟨he, NE.step h1 h2 h5 hU⟩
theorem n_take {k : Int} (h : NE w0 w F p bm s) (hg : Good s) : Calls Try.prog 17 #[.pointer (some ⟨p, 0, none⟩), .int .i64 k] w (RT (tkV (takeS s k).2) (Stp w0 w F p bm (takeS s k).1)) := by
  obtain ⟨v, h1, h2, h5⟩ := h
  exact (take_any _ p bm v s k w h2 hg).mono fun e w' ⟨he, hU⟩ => ⟨he, NE.step h1 h2 h5 hU⟩
theorem n_drop {k : Int} (h : NE w0 w F p bm s) : Calls Try.prog 18 #[.pointer (some ⟨p, 0, none⟩), .int .i64 k] w (RB (dropS s k).2 (Stp w0 w F p bm (dropS s k).1)) := by
  obtain ⟨v, h1, h2, h5⟩ := h
  exact (drop_any _ p bm v s k w h2).mono fun e w' ⟨he, hU⟩ => ⟨he, NE.step h1 h2 h5 hU⟩
theorem n_cut {a b : Int} (h : NE w0 w F p bm s) (hg : Good s) (hc : s.cnt < 1000000) : Calls Try.prog 16 #[.pointer (some ⟨p, 0, none⟩), .int .i64 a, .int .i64 b] w (RB (cutS s a b).2 (Stp w0 w F p bm (cutS s a b).1)) := by
  obtain ⟨v, h1, h2, h5⟩ := h
  exact (cut_any _ p bm v s a b w h2 hg hc).mono fun e w' ⟨he, hU⟩ => ⟨he, NE.step h1 h2 h5 hU⟩
theorem n_join {a b : Int} (h : NE w0 w F p bm s) (hg : Good s) : Calls Try.prog 19 #[.pointer (some ⟨p, 0, none⟩), .int .i64 a, .int .i64 b] w (RB (joinS s a b).2 (Stp w0 w F p bm (joinS s a b).1)) := by
  obtain ⟨v, h1, h2, h5⟩ := h
  exact (join_any _ p bm v s a b w h2 hg).mono fun e w' ⟨he, hU⟩ => ⟨he, NE.step h1 h2 h5 hU⟩
theorem n_heal (h : NE w0 w F p bm s) : Calls Try.prog 25 #[.pointer (some ⟨p, 0, none⟩)] w (Tup0 (Stp w0 w F p bm (healS s))) := by
  obtain ⟨v, h1, h2, h5⟩ := h
  exact (heal_any _ p bm v s w h2).mono fun e w' ⟨he, hU⟩ => ⟨he, NE.step h1 h2 h5 hU⟩
theorem n_len (h : NE w0 w F p bm s) : Calls Try.prog 13 #[.pointer (some ⟨p, 0, none⟩)] w (SameI (s.fl.length : Int) w) := by
  obtain ⟨v, h1, h2, h5⟩ := h
  exact len_any _ p bm v s w h2
theorem n_sent (h : NE w0 w F p bm s) : Calls Try.prog 22 #[.pointer (some ⟨p, 0, none⟩)] w (RetV (.tuple #[.int .i64 s.fr, .int .i64 s.bt]) w) := by
  obtain ⟨v, h1, h2, h5⟩ := h
  exact sent_any _ p bm v s w h2

/-! ### NetOrder, in plain words -/
def okf (n : Int) (f : Fr) : Bool := twoB n f.1 f.2.1 && decide (0 < f.2.2.size) && decide (f.2.2.size ≤ 8192)
theorem send_filter : ∀ (l : List Fr) (s : St), s.fl.length + l.length ≤ 400 → (sendS s l).fl = s.fl ++ l.filter (okf s.nodes) ∧ (sendS s l).nodes = s.nodes
  | [], s, _ => by simp [sendS]
  | f :: l, s, h => by
    simp at h
    rw [show sendS s (f :: l) = sendS (send1 s f) l from rfl]
    have hk : okF s.nodes s.fl.length f = okf s.nodes f := by simp [okF, okf]; intros; omega
    by_cases hf : okf s.nodes f = true
    · have e : send1 s f = { s with fl := s.fl ++ [f], fr := s.fr + 1, bt := s.bt + f.2.2.size } := by unfold send1; rw [hk, if_pos hf]
      obtain ⟨h1, h2⟩ := send_filter l (send1 s f) (by rw [e]; simp; omega)
      rw [h1, h2, e]
      simp [hf]
    · have e : send1 s f = s := by unfold send1; rw [hk, if_neg hf]
      rw [e]
      obtain ⟨h1, h2⟩ := send_filter l s (by omega)
      rw [h1, h2]
      simp [hf]
/-- does a frame lie between these two? -/
def betw (a b : Int) (f : Fr) : Bool := (f.1 == a && f.2.1 == b) || (f.1 == b && f.2.1 == a)
def wantB (a b : Int) (c : Bool) (f : Fr) : Bool := !c || !betw a b f
theorem lk_betw {a b : Int} {f : Fr} : lk f.1 f.2.1 = lk a b ↔ betw a b f = true := by
  simp only [lk, betw, Prod.mk.injEq, Bool.or_eq_true, Bool.and_eq_true, beq_iff_eq]
  omega
end Go.Proofs.Ytmiaifbpepfbnaa
