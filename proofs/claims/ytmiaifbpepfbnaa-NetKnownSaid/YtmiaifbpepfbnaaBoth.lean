/- A net and its reference, side by side. -/
import Derived.Test.YtmiaifbpepfbnaaWorks
namespace Go.Proofs.Ytmiaifbpepfbnaa
open Go.RowKit Go.Joins Go.ChangeMaps

/-- both lie in w, made since w0; the blocks F are none of theirs. -/
def BE (w0 w : World) (F : Nat → Prop) (p bm q : Nat) (s r : St) : Prop :=
  ∃ v rv c, Below w0.heap.size w0 w ∧ PN w w0.heap.size p bm v s ∧ RN w w0.heap.size q rv c r ∧ (∀ g, v.ownBlock = some g → rv.ownBlock ≠ some g) ∧ ∀ k, F k → ¬ PF p bm v k ∧ ¬ RF q rv c k ∧ k < w.heap.size
variable {w0 w w' : World} {F F' : Nat → Prop} {p bm q : Nat} {s r s' r' : St}
theorem BE.bel (h : BE w0 w F p bm q s r) : Below w0.heap.size w0 w := by obtain ⟨_, _, _, h, _⟩ := h; exact h
theorem BE.below (h : BE w0 w F p bm q s r) (hb : Below w.heap.size w w') : BE w0 w' F p bm q s r := by
  obtain ⟨v, rv, c, h1, h2, h3, h4, h5⟩ := h
  exact ⟨v, rv, c, grew_trans h1 hb, h2.below hb, h3.below hb, h4, fun k hk => ⟨(h5 k hk).1, (h5 k hk).2.1, Nat.lt_of_lt_of_le (h5 k hk).2.2 hb.size⟩⟩
theorem BE.less (h : BE w0 w F p bm q s r) (hF : ∀ k, F' k → F k) : BE w0 w F' p bm q s r := by
  obtain ⟨v, rv, c, h1, h2, h3, h4, h5⟩ := h
  exact ⟨v, rv, c, h1, h2, h3, h4, fun k hk => h5 k (hF k hk)⟩
/-- a world that grew: what is new is none of theirs. -/
theorem BE.more (h : BE w0 w F p bm q s r) (hb : Below w.heap.size w w') : BE w0 w' (fun k => F k ∨ (w.heap.size ≤ k ∧ k < w'.heap.size)) p bm q s r := by
  obtain ⟨v, rv, c, h1, h2, h3, h4, h5⟩ := h
  refine ⟨v, rv, c, grew_trans h1 hb, h2.below hb, h3.below hb, h4, fun k hk => ?_⟩
  rcases hk with hk | hk
  · exact ⟨(h5 k hk).1, (h5 k hk).2.1, Nat.lt_of_lt_of_le (h5 k hk).2.2 hb.size⟩
  · exact ⟨fun c => by have := (h2.lt k c).2; omega, fun c => by have := (h3.lt k c).2; omega, hk.2⟩
/-- what is written is none of theirs. -/
theorem BE.mod {S : Nat → Prop} (h : BE w0 w F p bm q s r) (hm : Mod S w w') (hS : ∀ k, S k → F k) (hn : ∀ k, S k → w0.heap.size ≤ k) : BE w0 w' F p bm q s r := by
  obtain ⟨v, rv, c, h1, h2, h3, h4, h5⟩ := h
  exact ⟨v, rv, c, h1.trans (hm.below h1.size hn), h2.mod hm (fun k hk hs => (h5 k (hS k hs)).1 hk), h3.mod hm (fun k hk hs => (h5 k (hS k hs)).2.1 hk), h4, fun k hk => ⟨(h5 k hk).1, (h5 k hk).2.1, Nat.lt_of_lt_of_le (h5 k hk).2.2 hm.size⟩⟩
/-- behind a method: the one has turned; what is not theirs is as it was. -/
def Step (w0 w : World) (F : Nat → Prop) (p bm q : Nat) (s r : St) (w' : World) : Prop := BE w0 w' F p bm q s r ∧ (∀ k o, F k → w.heap[k]? = some o → w'.heap[k]? = some o) ∧ Mod (fun k => ¬ F k ∧ w0.heap.size ≤ k) w w'
theorem BE.pstep {v rv c : Value} (h1 : Below w0.heap.size w0 w) (h2 : PN w w0.heap.size p bm v s) (h3 : RN w w0.heap.size q rv c r) (h4 : ∀ g, v.ownBlock = some g → rv.ownBlock ≠ some g) (h5 : ∀ k, F k → ¬ PF p bm v k ∧ ¬ RF q rv c k ∧ k < w.heap.size)
    (hU : PUpd w0.heap.size p bm v s' w w') : Step w0 w F p bm q s' r w' := by
  obtain ⟨v', k1, k2, k3⟩ := hU
  have hap := apart h2 h3 h4
  refine ⟨⟨v', rv, c, h1.trans (k2.below h1.size (fun k hk => (h2.lt k hk).1)), k1, h3.mod k2 (fun k hk hs => hap k hs hk), fun g hg hr => ?_, fun k hk => ⟨fun c => ?_, (h5 k hk).2.1, Nat.lt_of_lt_of_le (h5 k hk).2.2 k2.size⟩⟩, fun k o hk ho => k2.heap ho (h5 k hk).1, k2.mono fun k _ hk => ⟨fun c => (h5 k c).1 hk, (h2.lt k hk).1⟩⟩
  · rcases k3 g hg with hc | hc
    · exact h4 g hc hr
    · have := (h3.lt g (.inr (.inl hr))).2; omega
  · rcases c with rfl | rfl | c
    · exact (h5 _ hk).1 (.inl rfl)
    · exact (h5 _ hk).1 (.inr (.inl rfl))
    · rcases k3 k c with hc | hc
      · exact (h5 k hk).1 (.inr (.inr hc))
      · have := (h5 k hk).2.2; omega
theorem BE.rstep {v rv c : Value} (h1 : Below w0.heap.size w0 w) (h2 : PN w w0.heap.size p bm v s) (h3 : RN w w0.heap.size q rv c r) (h4 : ∀ g, v.ownBlock = some g → rv.ownBlock ≠ some g) (h5 : ∀ k, F k → ¬ PF p bm v k ∧ ¬ RF q rv c k ∧ k < w.heap.size)
    (hU : RUpd w0.heap.size q rv c r' w w') : Step w0 w F p bm q s r' w' := by
  obtain ⟨rv', c', k1, k2, k3, k4⟩ := hU
  have hap := apart h2 h3 h4
  refine ⟨⟨v, rv', c', h1.trans (k2.below h1.size (fun k hk => (h3.lt k hk).1)), h2.mod k2 (fun k hk hs => hap k hk hs), k1, fun g hg hr => ?_, fun k hk => ⟨(h5 k hk).1, fun c => ?_, Nat.lt_of_lt_of_le (h5 k hk).2.2 k2.size⟩⟩, fun k o hk ho => k2.heap ho (h5 k hk).2.1, k2.mono fun k _ hk => ⟨fun c => (h5 k c).2.1 hk, (h3.lt k hk).1⟩⟩
  · rcases k3 g hr with hc | hc
    · exact h4 g hg hc
    · have := (h2.lt g (.inr (.inr hg))).2; omega
  · rcases c with rfl | c | c
    · exact (h5 _ hk).2.1 (.inl rfl)
    · rcases k3 k c with hc | hc
      · exact (h5 k hk).2.1 (.inr (.inl hc))
      · have := (h5 k hk).2.2; omega
    · rcases k4 k c with hc | hc
      · exact (h5 k hk).2.1 (.inr (.inr hc))
      · have := (h5 k hk).2.2; omega
/-! ### The methods -/
theorem b_send {a : Option Addr} {c n : Nat} {l : List Fr} (h : BE w0 w F p bm q s r) (hg : Good s) (hl : Sli encF 3 w a c l) (hn : l.length = n) (hbd : s.fr + n ≤ 1000000000) (hF : ∀ b off, a = some ⟨b, off, none⟩ → F b) :
    Calls Try.prog 9 #[.pointer (some ⟨p, 0, none⟩), .slice a n c] w (Tup0 (Step w0 w F p bm q (sendS s l) r)) := by
  obtain ⟨v, rv, cc, h1, h2, h3, h4, h5⟩ := h
  subst hn
  exact (send_any _ p bm c v s a l w h2 hg hl h1.size hbd (fun b off e => (h5 b (hF b off e)).1)).mono fun e w' ⟨he, hU⟩ => ⟨he, BE.pstep h1 h2 h3 h4 h5 hU⟩
theorem b_rsend {a : Option Addr} {c n : Nat} {l : List Fr} (h : BE w0 w F p bm q s r) (hg : Good r) (hl : Sli encF 3 w a c l) (hn : l.length = n) (hbd : r.fr + n ≤ 1000000000) (hF : ∀ b off, a = some ⟨b, off, none⟩ → F b) :
    Calls Try.prog 10 #[.pointer (some ⟨q, 0, none⟩), .slice a n c] w (Tup0 (Step w0 w F p bm q s (sendS r l))) := by
  obtain ⟨v, rv, cc, h1, h2, h3, h4, h5⟩ := h
  subst hn
  exact (rsend_any _ q c rv cc r a l w h3 hg hl h1.size hbd (fun b off e => (h5 b (hF b off e)).2.1)).mono fun e w' ⟨he, hU⟩ => ⟨he, BE.rstep h1 h2 h3 h4 h5 hU⟩
theorem b_twice {k : Int} (h : BE w0 w F p bm q s r) : Calls Try.prog 11 #[.pointer (some ⟨p, 0, none⟩), .int .i64 k] w (RB (twiceS s k).2 (Step w0 w F p bm q (twiceS s k).1 r)) := by
  obtain ⟨v, rv, cc, h1, h2, h3, h4, h5⟩ := h
  exact (twice_any _ p bm v s k w h2 h1.size).mono fun e w' ⟨he, hU⟩ => ⟨he, BE.pstep h1 h2 h3 h4 h5 hU⟩
theorem b_rtwice {k : Int} (h : BE w0 w F p bm q s r) : Calls Try.prog 12 #[.pointer (some ⟨q, 0, none⟩), .int .i64 k] w (RB (twiceS r k).2 (Step w0 w F p bm q s (twiceS r k).1)) := by
  obtain ⟨v, rv, cc, h1, h2, h3, h4, h5⟩ := h
  exact (rtwice_any _ q rv cc r k w h3 h1.size).mono fun e w' ⟨he, hU⟩ => ⟨he, BE.rstep h1 h2 h3 h4 h5 hU⟩
theorem b_take {k : Int} (h : BE w0 w F p bm q s r) (hg : Good s) : Calls Try.prog 17 #[.pointer (some ⟨p, 0, none⟩), .int .i64 k] w (RT (tkV (takeS s k).2) (Step w0 w F p bm q (takeS s k).1 r)) := by
  obtain ⟨v, rv, cc, h1, h2, h3, h4, h5⟩ := h
  exact (take_any _ p bm v s k w h2 hg).mono fun e w' ⟨he, hU⟩ => ⟨he, BE.pstep h1 h2 h3 h4 h5 hU⟩
theorem b_rtake {k : Int} (h : BE w0 w F p bm q s r) (hg : Good r) : Calls Try.prog 23 #[.pointer (some ⟨q, 0, none⟩), .int .i64 k] w (RT (tkV (takeS r k).2) (Step w0 w F p bm q s (takeS r k).1)) := by
  obtain ⟨v, rv, cc, h1, h2, h3, h4, h5⟩ := h
  exact (rtake_any _ q rv cc r k w h3 hg h1.size).mono fun e w' ⟨he, hU⟩ => ⟨he, BE.rstep h1 h2 h3 h4 h5 hU⟩
theorem b_drop {k : Int} (h : BE w0 w F p bm q s r) : Calls Try.prog 18 #[.pointer (some ⟨p, 0, none⟩), .int .i64 k] w (RB (dropS s k).2 (Step w0 w F p bm q (dropS s k).1 r)) := by
  obtain ⟨v, rv, cc, h1, h2, h3, h4, h5⟩ := h
  exact (drop_any _ p bm v s k w h2).mono fun e w' ⟨he, hU⟩ => ⟨he, BE.pstep h1 h2 h3 h4 h5 hU⟩
theorem b_rdrop {k : Int} (h : BE w0 w F p bm q s r) (hg : Good r) : Calls Try.prog 34 #[.pointer (some ⟨q, 0, none⟩), .int .i64 k] w (RB (dropS r k).2 (Step w0 w F p bm q s (dropS r k).1)) := by
  obtain ⟨v, rv, cc, h1, h2, h3, h4, h5⟩ := h
  exact (rdrop_any _ q rv cc r k w h3 hg h1.size).mono fun e w' ⟨he, hU⟩ => ⟨he, BE.rstep h1 h2 h3 h4 h5 hU⟩
theorem b_cut {a b : Int} (h : BE w0 w F p bm q s r) (hg : Good s) (hc : s.cnt < 1000000) : Calls Try.prog 16 #[.pointer (some ⟨p, 0, none⟩), .int .i64 a, .int .i64 b] w (RB (cutS s a b).2 (Step w0 w F p bm q (cutS s a b).1 r)) := by
  obtain ⟨v, rv, cc, h1, h2, h3, h4, h5⟩ := h
  exact (cut_any _ p bm v s a b w h2 hg hc).mono fun e w' ⟨he, hU⟩ => ⟨he, BE.pstep h1 h2 h3 h4 h5 hU⟩
theorem b_rcut {a b : Int} (h : BE w0 w F p bm q s r) (hc : r.cuts.length ≤ 1000000) : Calls Try.prog 35 #[.pointer (some ⟨q, 0, none⟩), .int .i64 a, .int .i64 b] w (RB (cutS r a b).2 (Step w0 w F p bm q s (cutS r a b).1)) := by
  obtain ⟨v, rv, cc, h1, h2, h3, h4, h5⟩ := h
  exact (rcut_any _ q rv cc r a b w h3 h1.size hc).mono fun e w' ⟨he, hU⟩ => ⟨he, BE.rstep h1 h2 h3 h4 h5 hU⟩
theorem b_join {a b : Int} (h : BE w0 w F p bm q s r) (hg : Good s) : Calls Try.prog 19 #[.pointer (some ⟨p, 0, none⟩), .int .i64 a, .int .i64 b] w (RB (joinS s a b).2 (Step w0 w F p bm q (joinS s a b).1 r)) := by
  obtain ⟨v, rv, cc, h1, h2, h3, h4, h5⟩ := h
  exact (join_any _ p bm v s a b w h2 hg).mono fun e w' ⟨he, hU⟩ => ⟨he, BE.pstep h1 h2 h3 h4 h5 hU⟩
theorem b_rjoin {a b : Int} (h : BE w0 w F p bm q s r) (hc : r.cuts.length ≤ 1000000) : Calls Try.prog 36 #[.pointer (some ⟨q, 0, none⟩), .int .i64 a, .int .i64 b] w (RB (joinS r a b).2 (Step w0 w F p bm q s (joinS r a b).1)) := by
  obtain ⟨v, rv, cc, h1, h2, h3, h4, h5⟩ := h
  exact (rjoin_any _ q rv cc r a b w h3 h1.size hc).mono fun e w' ⟨he, hU⟩ => ⟨he, BE.rstep h1 h2 h3 h4 h5 hU⟩
theorem b_heal (h : BE w0 w F p bm q s r) : Calls Try.prog 25 #[.pointer (some ⟨p, 0, none⟩)] w (Tup0 (Step w0 w F p bm q (healS s) r)) := by
  obtain ⟨v, rv, cc, h1, h2, h3, h4, h5⟩ := h
  exact (heal_any _ p bm v s w h2).mono fun e w' ⟨he, hU⟩ => ⟨he, BE.pstep h1 h2 h3 h4 h5 hU⟩
theorem b_len (h : BE w0 w F p bm q s r) : Calls Try.prog 13 #[.pointer (some ⟨p, 0, none⟩)] w (SameI (s.fl.length : Int) w) := by
  obtain ⟨v, rv, cc, h1, h2, h3, h4, h5⟩ := h
  exact len_any _ p bm v s w h2
theorem b_sent (h : BE w0 w F p bm q s r) : Calls Try.prog 22 #[.pointer (some ⟨p, 0, none⟩)] w (RetV (.tuple #[.int .i64 s.fr, .int .i64 s.bt]) w) := by
  obtain ⟨v, rv, cc, h1, h2, h3, h4, h5⟩ := h
  exact sent_any _ p bm v s w h2
/-- what the reference's fields hold. -/
theorem b_ref (h : BE w0 w F p bm q s r) : ∃ a cap, w.cell? ⟨q, 1, none⟩ = some (.slice a r.fl.length cap) ∧ w.cell? ⟨q, 3, none⟩ = some (.int .i64 r.fr) ∧ w.cell? ⟨q, 4, none⟩ = some (.int .i64 r.bt) := by
  obtain ⟨v, rv, cc, h1, h2, h3, h4, h5⟩ := h
  obtain ⟨a, cap, rfl, -, -⟩ := h3.own.sli EF
  exact ⟨a, cap, h3.c.1.2.1, h3.c.1.2.2.2.1, h3.c.1.2.2.2.2⟩
end Go.Proofs.Ytmiaifbpepfbnaa
